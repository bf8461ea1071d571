/- Any script of the bag, walked. -/
import Derived.Test.YtfocpadeflpabaaGreatDoorBagLZa
import Derived.Test.YtfocpadeflpabaaGreatDoorBagEZa
import Derived.Test.YtfocpadeflpabaaGreatDoorRbgBZa
set_option linter.unusedVariables false
set_option maxRecDepth 100000
set_option maxHeartbeats 1000000
set_option linter.unusedSimpArgs false
namespace Go.Proofs.YtfocpadeflpabaaGreatDoor.Act
open Go.RowKit Go.Proofs.YtfocpadeflpabaaGreatDoor.Sx Go.Proofs.YtfocpadeflpabaaGreatDoor.Cod Go.Proofs.YtfocpadeflpabaaGreatDoor.Num
theorem ty36 : TyI Tryz.prog 36 (.agg #[.int .i64 0, .int .i64 0, .int .i64 0, .int .i64 0, .int .i64 0, .int .i64 0, .slice none 0 0, .slice none 0 0]) 8 96 true := ⟨by kernel_rfl, _, Tryz.underlying36, rfl⟩
theorem fitsM2_calls (w0 : World) {m : MessageD} {okm0 : Nat → Prop} {Am0 : Option Addr} {cm0 : Nat} (hrm0 : Rd (Rep.int .i64) w0 okm0 Am0 m.nodes cm0) {okm1 : Nat → Prop} {Am1 : Option Addr} {cm1 : Nat} (hrm1 : Rd ChgE w0 okm1 Am1 m.changes cm1) : Calls Tryz.prog 5 #[.agg #[.int .i64 m.kind, .int .i64 m.src, .int .i64 m.dst, .int .i64 m.tx, .slice Am0 m.nodes.length cm0, .slice Am1 m.changes.length cm1]] w0 fun e w' => ∃ b : Bool, e = .returned (.bool b) ∧ (b = true → (m.nodes.length : Int) ≤ 50) ∧ Mods (fun _ => False) w0 w' := by
 refine cow Tryz.func5 rfl Tryz.ntmps5 (Nat.le_of_ble_eq_true rfl) fun a F => ?_
 have H := Hp.nil (fun _ => False) w0
 have H := H.arg 900 hrm0.all (fun _ h => ⟨h, fun h => h⟩)
 have hlem0 := hrm0.le; unfold maxLen at hlem0
 have H := H.arg 901 hrm1.all (fun _ h => ⟨h, fun h => h⟩)
 have hlem1 := hrm1.le; unfold maxLen at hlem1
 refine sr fun khK1 hK1 => ?_
 refine lp rfl ?_
 refine w_box 1 F H rfl (F.t 0 rfl) ?_
 clear F H; intro a w b1 F H
 refine la F rfl (x_assign rfl) fun a F => ?_
 refine wn (hK1 _ _ ?_)
 refine sr fun khK2 hK2 => ?_
 refine la F rfl (x_faddr Tryz.underlying34 rfl ty32 (by decide) (F.t 1 rfl) rfl) fun a F => ?_
 refine la F rfl (x_load1 ty32 (F.t 4 rfl) (blk_cell (H.at 1 rfl) 5 rfl)) fun a F => ?_
 refine lp rfl ?_
 refine w_call F (x_enter Tryz.func22 (by kernel_rfl) rfl (by simp only [bM, F.t 5 rfl] <;> rfl)) (fitsAll_calls _ ((H.rd 901 rfl))) rfl rfl ?_
 rintro _ w ⟨ba_, rfl, hm_⟩; refine ⟨_, rfl, ?_⟩; clear F; intro a F; have H := H.same hm_
 refine la F rfl (x_assign (F.t 6 rfl)) fun a F => ?_
 refine wn (hK2 _ _ ?_)
 refine sr fun khK3 hK3 => ?_
 refine la F rfl (x_move (F.t 3 rfl)) fun a F => ?_
 refine la F rfl (x_move (F.t 7 rfl)) fun a F => ?_
 refine split_bool F 8 rfl (fun hb8 => ?_) (fun hb8 => ?_)
 ·have hc8 := hb8; try simp only [bL] at hc8
  refine lgs F hb8 rfl (x_faddr Tryz.underlying34 rfl ty32 (by decide) (F.t 1 rfl) rfl) fun a F => ?_
  refine lgs F hb8 rfl (x_load1 ty32 (F.t 9 rfl) (blk_cell (H.at 1 rfl) 5 rfl)) fun a F => ?_
  refine lgs F hb8 rfl (x_len_slice Tryz.underlying32 (F.t 10 rfl)) fun a F => ?_
  refine lgs F hb8 rfl (x_leq (F.t 11 rfl) rfl) fun a F => ?_
  refine la F rfl (x_pickT (F.t 8 rfl) hb8 (F.t 12 rfl)) fun a F => ?_
  refine la F rfl (x_move (F.t 13 rfl)) fun a F => ?_
  refine split_bool F 14 rfl (fun hb14 => ?_) (fun hb14 => ?_)
  ·have hc14 := hb14; try simp only [bL] at hc14
   refine lgs F hb14 rfl (x_faddr Tryz.underlying34 rfl ty31 (by decide) (F.t 1 rfl) rfl) fun a F => ?_
   refine lgs F hb14 rfl (x_load1 ty31 (F.t 15 rfl) (blk_cell (H.at 1 rfl) 4 rfl)) fun a F => ?_
   refine lgs F hb14 rfl (x_len_slice Tryz.underlying31 (F.t 16 rfl)) fun a F => ?_
   refine lgs F hb14 rfl (x_leq (F.t 17 rfl) rfl) fun a F => ?_
   refine la F rfl (x_pickT (F.t 14 rfl) hb14 (F.t 18 rfl)) fun a F => ?_
   refine la F rfl (x_assign (F.t 19 rfl)) fun a F => ?_
   refine wn (hK3 _ _ ?_)
   refine wp_ret ?_
   try simp only [Exit.then, Exit.inBlock]
   exact fin_ret F (res1 (v := .bool (decide ((m.nodes.length : Int) ≤ 50))) F rfl rfl) ⟨_, rfl, (by intro h_; first | (simp at h_; done) | (simp at h_; omega)), H.mods⟩
  ·have hc14 := hb14; try simp only [bL] at hc14
   refine los F hb14 rfl fun a F => ?_
   refine los F hb14 rfl fun a F => ?_
   refine los F hb14 rfl fun a F => ?_
   refine los F hb14 rfl fun a F => ?_
   refine la F rfl (x_pickF (F.t 14 rfl) hb14 rfl) fun a F => ?_
   refine la F rfl (x_assign (F.t 19 rfl)) fun a F => ?_
   refine wn (hK3 _ _ ?_)
   refine wp_ret ?_
   try simp only [Exit.then, Exit.inBlock]
   exact fin_ret F (res1 (v := .bool false) F rfl rfl) ⟨_, rfl, (by intro h_; first | (simp at h_; done) | (simp at h_; omega)), H.mods⟩
 ·have hc8 := hb8; try simp only [bL] at hc8
  refine los F hb8 rfl fun a F => ?_
  refine los F hb8 rfl fun a F => ?_
  refine los F hb8 rfl fun a F => ?_
  refine los F hb8 rfl fun a F => ?_
  refine la F rfl (x_pickF (F.t 8 rfl) hb8 rfl) fun a F => ?_
  refine la F rfl (x_move (F.t 13 rfl)) fun a F => ?_
  refine lo F rfl fun a F => ?_
  refine lo F rfl fun a F => ?_
  refine lo F rfl fun a F => ?_
  refine lo F rfl fun a F => ?_
  refine la F rfl (x_pickF (F.t 14 rfl) rfl rfl) fun a F => ?_
  refine la F rfl (x_assign (F.t 19 rfl)) fun a F => ?_
  refine wn (hK3 _ _ ?_)
  refine wp_ret ?_
  try simp only [Exit.then, Exit.inBlock]
  exact fin_ret F (res1 (v := .bool false) F rfl rfl) ⟨_, rfl, (by intro h_; first | (simp at h_; done) | (simp at h_; omega)), H.mods⟩
theorem bPlays_calls (w0 : World) (hL : LibAt true w0) {ok : Nat → Prop} {A : Option Addr} {xs : List BActD} {c : Nat} (hr : Rd BactE w0 ok A xs c) (hxb : ∀ x ∈ xs, MessageB x.m) : Calls Tryz.prog 3 #[.slice A xs.length c] w0 fun e w' => e = .returned (.bool true) ∧ Mods (fun _ => False) w0 w' := by
 refine cow Tryz.func3 rfl Tryz.ntmps3 (Nat.le_of_ble_eq_true rfl) fun a F => ?_
 have H := Hp.nil (fun _ => False) w0
 have H := H.arg 901 hr.all (fun _ h => ⟨h, fun h => h⟩)
 have hle901 := hr.le; unfold maxLen at hle901
 have H := H.libN 990 hL
 refine sr fun khK1 hK1 => ?_
 refine la F rfl (x_assign rfl) fun a F => ?_
 refine wn (hK1 _ _ ?_)
 refine sr fun khK2 hK2 => ?_
 refine lp rfl ?_
 refine w_call F (x_enter Tryz.func4 (by kernel_rfl) rfl (by simp only [bM] <;> rfl)) (bnew_calls _) rfl rfl ?_
 rintro _ w ⟨bb, X0, rfl, hX0, hxo_, hm_, hxn_, hxr_⟩; refine ⟨_, rfl, ?_⟩; clear F; intro a F; have H := H.newX 100 hm_ hxo_ hxn_ (fun k hk => (hxr_ k hk).elim)
 refine la F rfl (x_assign (F.t 27 rfl)) fun a F => ?_
 refine wn (hK2 _ _ ?_)
 refine sr fun khK3 hK3 => ?_
 refine la F rfl (x_buildS (cells := #[.slice none 0 0, .int .i64 0, .int .i64 0, .int .i64 0, .int .i64 0, .int .i64 0, .int .i64 0, .int .i64 0, .int .i64 0, .int .i64 0]) (places := #[(0, 1), (1, 8), (9, 1)]) Tryz.underlying29 ty29 (by kernel_rfl) Array.map_empty rfl) fun a F => ?_
 refine lp rfl ?_
 refine w_box 1 F H rfl (F.t 28 rfl) ?_
 clear F H; intro a w b29 F H
 have H := Hp.rdnil H 2 RwayE
 have H := H.bundle (L := [(1, .blk b29 (.cells #[.slice none (rwy bag0.ways).length 0, .int .i64 (gi bag0.eps 0), .int .i64 (gi bag0.eps 1), .int .i64 (gi bag0.eps 2), .int .i64 (gi bag0.eps 3), .int .i64 (gi bag0.eps 4), .int .i64 (gi bag0.eps 5), .int .i64 (gi bag0.eps 6), .int .i64 (gi bag0.eps 7), .int .i64 bag0.lost] 29 (0, 0))), (2, .rd_ RwayE none (rwy bag0.ways) 0 (fun _ => False))]) (N := [(901, .rd_ BactE A xs c (fun k => k < w0.heap.size)), (990, .lib true), (100, X0)]) 101 (sub_cons (sub_cons (sub_nil _) 2 rfl) 1 rfl) (sub_cons (sub_cons (sub_cons (sub_nil _) 100 rfl) 990 rfl) 901 rfl) (apart_cons rfl (apart_cons rfl (apart_nil _)))
 refine la F rfl (x_assign (F.t 29 rfl)) fun a F => ?_
 refine wn (hK3 _ _ ?_)
 refine wp_seq_k fun khK4 hK4 => ?_
 refine sr fun khK5 hK5 => ?_
 refine la F rfl (x_move (F.t 3 rfl)) fun a F => ?_
 refine la F rfl (x_ptrnil Tryz.underlying23 (F.t 30 rfl) rfl) fun a F => ?_
 refine wn (hK5 _ _ ?_)
 refine wp_cond_false (F.t 31 rfl) ?_
 refine wp_skip ?_
 refine hK4 _ _ ?_
 refine wp_seq_k fun khK6 hK6 => ?_
 refine sr fun khK7 hK7 => ?_
 refine la F rfl (x_assign rfl) fun a F => ?_
 refine wn (hK7 _ _ ?_)
 refine wp_block ?_
 refine wp_loop_ghost (fun n_ a w => ∃ k : Nat, ∃ X : Asn, ∃ s : BagS, ∃ Y : Asn, n_ = 100 - k ∧ (k ≤ 100) ∧ (BagA 54 61 bb s X) ∧ (BagOk s) ∧ (RBagA 29 b29 s Y) ∧ (k ≤ xs.length) ∧ Fr 244 a [(0, .slice A xs.length c), (3, .pointer (some ⟨bb, 0, none⟩)), (4, .pointer (some ⟨b29, 0, none⟩)), (5, .int .i64 (k : Int))] ∧ Hp (fun _ => False) w0 w [(901, .rd_ BactE A xs c (fun k => k < w0.heap.size)), (990, .lib true), (100, X), (101, Y)]) (100) ?_ ?_
 ·exact ⟨0, X0, bag0, Asn.all [(1, .blk b29 (.cells #[.slice none (rwy bag0.ways).length 0, .int .i64 (gi bag0.eps 0), .int .i64 (gi bag0.eps 1), .int .i64 (gi bag0.eps 2), .int .i64 (gi bag0.eps 3), .int .i64 (gi bag0.eps 4), .int .i64 (gi bag0.eps 5), .int .i64 (gi bag0.eps 6), .int .i64 (gi bag0.eps 7), .int .i64 bag0.lost] 29 (0, 0))), (2, .rd_ RwayE none (rwy bag0.ways) 0 (fun _ => False))], rfl, by omega, hX0, bag0_ok, (⟨none, 0, _, rfl⟩ : RBagA 29 b29 bag0 _), by omega, ((((F.bare.add F 5 rfl).add F 4 rfl).add F 3 rfl).add F 0 rfl), H.sub _ (sub_cons (sub_cons (sub_cons (sub_cons (sub_nil _) 101 rfl) 100 rfl) 990 rfl) 901 rfl)⟩
 ·rintro _ a w ⟨k, X, s, Y, rfl, hq0_0, hq0_1, hq0_2, hq0_3, hq0_4, F, H⟩
  refine wp_seq_k fun khK8 hK8 => ?_
  refine sr fun khK9 hK9 => ?_
  refine la F rfl (x_move (F.t 5 rfl)) fun a F => ?_
  refine la F rfl (x_move (F.t 0 rfl)) fun a F => ?_
  refine la F rfl (x_len_slice Tryz.underlying22 (F.t 33 rfl)) fun a F => ?_
  refine la F rfl (x_lss (F.t 32 rfl) (F.t 34 rfl)) fun a F => ?_
  refine la F rfl (x_move (F.t 35 rfl)) fun a F => ?_
  refine split_bool F 36 rfl (fun hb36 => ?_) (fun hb36 => ?_)
  ·have hc36 := hb36; try simp only [bL] at hc36
   refine lgs F hb36 rfl (x_move (F.t 5 rfl)) fun a F => ?_
   refine lgs F hb36 rfl (x_lss (F.t 37 rfl) rfl) fun a F => ?_
   refine la F rfl (x_pickT (F.t 36 rfl) hb36 (F.t 38 rfl)) fun a F => ?_
   refine wn (hK9 _ _ ?_)
   refine wp_cond_split (F.t 39 rfl) (fun hc39 => ?_) (fun hc39 => ?_)
   ·have hk39_1 := hc39; try simp only [bL] at hc39
    refine wp_skip ?_
    refine hK8 _ _ ?_
    refine wp_seq_k fun khK10 hK10 => ?_
    refine wp_block ?_
    refine sr fun khK11 hK11 => ?_
    refine la F rfl (x_move (F.t 0 rfl)) fun a F => ?_
    refine la F rfl (x_move (F.t 5 rfl)) fun a F => ?_
    refine la F rfl (x_iaddr_A Tryz.underlying22 ty36 ((H.rd 901 rfl)) (F.t 42 rfl) (F.t 43 rfl) (by omega) (by omega) _) fun a F => ?_
    obtain ⟨fA1_0, fc1_0, fA1_1, fc1_1, hfr1_0, hfr1_1, hf1_0, hf1_1, hf1_2, hf1_3, hf1_4, hf1_5, hf1_6, hf1_7, hfw1⟩ := rd_bact ((H.rd 901 rfl)) (gbact_some (xs := xs) (i := (k : Int)) (by omega) (by omega))
    have H := H.subrd 901 rfl 1006 hfr1_0 (fun _ h => h)
    have H := H.subrd 901 rfl 1007 hfr1_1 (fun _ h => h)
    have H := H.subcels 901 rfl 1499 hfw1 (Rd.inok ((H.rd 901 rfl)) (by omega) _)
    have H := H.subcel 901 rfl 1500 hf1_0 (Rd.inok ((H.rd 901 rfl)) (by omega) _)
    have H := H.subcel 901 rfl 1501 hf1_1 (Rd.inok ((H.rd 901 rfl)) (by omega) _)
    have H := H.subcel 901 rfl 1502 hf1_2 (Rd.inok ((H.rd 901 rfl)) (by omega) _)
    have H := H.subcel 901 rfl 1503 hf1_3 (Rd.inok ((H.rd 901 rfl)) (by omega) _)
    have H := H.subcel 901 rfl 1504 hf1_4 (Rd.inok ((H.rd 901 rfl)) (by omega) _)
    have H := H.subcel 901 rfl 1505 hf1_5 (Rd.inok ((H.rd 901 rfl)) (by omega) _)
    have H := H.subcel 901 rfl 1506 hf1_6 (Rd.inok ((H.rd 901 rfl)) (by omega) _)
    have H := H.subcel 901 rfl 1507 hf1_7 (Rd.inok ((H.rd 901 rfl)) (by omega) _)
    have hbm := hxb _ (gbact_mem (xs := xs) (j := k) (by omega))
    refine la F rfl (x_loadn ty36 (F.t 44 rfl) rfl (H.holds 1499 _ rfl)) fun a F => ?_
    refine lp rfl ?_
    refine w_alloc 6 F H rfl ty36 ?_
    clear F H; intro a w b6 F H
    refine lp rfl ?_
    refine w_storeA 6 H ty36 rfl (F.t 6 rfl) (F.t 45 rfl) rfl (by simp [Value.cells, Value.oneCell']) rfl ?_
    clear H; intro w H
    refine wn (hK11 _ _ ?_)
    refine sr fun khK12 hK12 => ?_
    refine la F rfl (x_faddr Tryz.underlying36 rfl ty34 (by decide) (F.t 6 rfl) rfl) fun a F => ?_
    refine la F rfl (x_loadn (cs := #[.int .i64 (gbact xs (k : Int)).m.kind, .int .i64 (gbact xs (k : Int)).m.src, .int .i64 (gbact xs (k : Int)).m.dst, .int .i64 (gbact xs (k : Int)).m.tx, .slice fA1_0 (gbact xs (k : Int)).m.nodes.length fc1_0, .slice fA1_1 (gbact xs (k : Int)).m.changes.length fc1_1]) ty34 (F.t 46 rfl) rfl (blk_sub (H.at 6 rfl) 2 6 rfl)) fun a F => ?_
    refine lp rfl ?_
    refine w_call F (x_enter Tryz.func5 (by kernel_rfl) rfl (by simp only [bM, F.t 47 rfl] <;> rfl)) (fitsM2_calls (m := (gbact xs (k : Int)).m) _ ((H.rd 1006 rfl)) ((H.rd 1007 rfl))) rfl rfl ?_
    rintro _ w ⟨bf_, rfl, hfit, hm_⟩; refine ⟨_, rfl, ?_⟩; clear F; intro a F; have H := H.same hm_
    refine la F rfl (x_assign (F.t 48 rfl)) fun a F => ?_
    refine wn (hK12 _ _ ?_)
    refine wp_seq_k fun khK13 hK13 => ?_
    refine sr fun khK14 hK14 => ?_
    refine la F rfl (x_move (F.t 7 rfl)) fun a F => ?_
    refine la F rfl (x_not (F.t 49 rfl)) fun a F => ?_
    refine wn (hK14 _ _ ?_)
    refine wp_cond_split (F.t 50 rfl) (fun hc50 => ?_) (fun hc50 => ?_)
    ·have hk50_2 := hc50; try simp only [bL] at hc50
     refine wp_exit ?_
     refine hK10 _ _ ?_
     refine wp_region_lit ?_
     refine la F rfl (x_move (F.t 5 rfl)) fun a F => ?_
     refine la F rfl (x_add (F.t 40 rfl) rfl (w64 (by omega) (by omega))) fun a F => ?_
     refine la F rfl (x_assign (F.t 41 rfl)) fun a F => ?_
     refine wpList_nil ?_
     exact ⟨_, by omega, ⟨k + 1, X, s, Y, rfl, by omega, hq0_1, hq0_2, hq0_3, by omega, ((((F.bare.add F 5 rfl).add F 4 rfl).add F 3 rfl).add F 0 rfl), H.sub _ (sub_cons (sub_cons (sub_cons (sub_cons (sub_nil _) 101 rfl) 100 rfl) 990 rfl) 901 rfl)⟩⟩
    ·have hk50_3 := hc50; try simp only [bL] at hc50
     have hnl := hfit (by simpa using hc50)
     refine wp_skip ?_
     refine hK13 _ _ ?_
     refine sr fun khK15 hK15 => ?_
     refine la F rfl (x_assign rfl) fun a F => ?_
     refine wn (hK15 _ _ ?_)
     refine wp_seq_k fun khK16 hK16 => ?_
     refine sr fun khK17 hK17 => ?_
     refine la F rfl (x_faddr Tryz.underlying36 rfl ty3 (by decide) (F.t 6 rfl) rfl) fun a F => ?_
     refine la F rfl (x_load1 ty3 (F.t 51 rfl) (blk_cell (H.at 6 rfl) 0 rfl)) fun a F => ?_
     refine wn (hK17 _ _ ?_)
     refine wp_block ?_
     refine sr fun khK18 hK18 => ?_
     refine la F rfl (x_eql (F.t 52 rfl) rfl) fun a F => ?_
     refine la F rfl (x_assign (F.t 54 rfl)) fun a F => ?_
     refine wn (hK18 _ _ ?_)
     refine wp_norm_k fun khK19 hK19 => ?_
     have hJ53 : ∀ a w, ∀ Xj : Asn, ∀ sj : BagS, ∀ Yj : Asn, (BagA 54 61 bb sj Xj) → (BagOk sj) → (RBagA 29 b29 sj Yj) → Fr 244 a [(0, .slice A xs.length c), (3, .pointer (some ⟨bb, 0, none⟩)), (4, .pointer (some ⟨b29, 0, none⟩)), (5, .int .i64 (k : Int)), (8, .bool true)] → Hp (fun _ => False) w0 w [(901, .rd_ BactE A xs c (fun k => k < w0.heap.size)), (990, .lib true), (100, Xj), (101, Yj), (1006, .rd_ (.int .i64) (fA1_0) (gbact xs (k : Int)).m.nodes fc1_0 (fun k => k < w0.heap.size)), (1007, .rd_ ChgE (fA1_1) (gbact xs (k : Int)).m.changes fc1_1 (fun k => k < w0.heap.size)), (6, .blk b6 (.cells #[.int .i64 (gbact xs (k : Int)).kind, .int .i64 (gbact xs (k : Int)).i, .int .i64 (gbact xs (k : Int)).m.kind, .int .i64 (gbact xs (k : Int)).m.src, .int .i64 (gbact xs (k : Int)).m.dst, .int .i64 (gbact xs (k : Int)).m.tx, .slice fA1_0 (gbact xs (k : Int)).m.nodes.length fc1_0, .slice fA1_1 (gbact xs (k : Int)).m.changes.length fc1_1] 36 (0, 0)))] → khK19 a w := by
      intro a w Xj sj Yj hj53_0 hj53_1 hj53_2 F H
      refine hK19 a w ?_
      obtain ⟨Al, cl, okl, rfl⟩ := hj53_2
      have H := H.unbundle (L := [(1, .blk b29 (.cells #[.slice Al (rwy sj.ways).length cl, .int .i64 (gi sj.eps 0), .int .i64 (gi sj.eps 1), .int .i64 (gi sj.eps 2), .int .i64 (gi sj.eps 3), .int .i64 (gi sj.eps 4), .int .i64 (gi sj.eps 5), .int .i64 (gi sj.eps 6), .int .i64 (gi sj.eps 7), .int .i64 sj.lost] 29 (0, 0))), (2, .rd_ RwayE Al (rwy sj.ways) cl okl)]) (N := [(901, .rd_ BactE A xs c (fun k => k < w0.heap.size)), (990, .lib true), (100, Xj), (1006, .rd_ (.int .i64) (fA1_0) (gbact xs (k : Int)).m.nodes fc1_0 (fun k => k < w0.heap.size)), (1007, .rd_ ChgE (fA1_1) (gbact xs (k : Int)).m.changes fc1_1 (fun k => k < w0.heap.size)), (6, .blk b6 (.cells #[.int .i64 (gbact xs (k : Int)).kind, .int .i64 (gbact xs (k : Int)).i, .int .i64 (gbact xs (k : Int)).m.kind, .int .i64 (gbact xs (k : Int)).m.src, .int .i64 (gbact xs (k : Int)).m.dst, .int .i64 (gbact xs (k : Int)).m.tx, .slice fA1_0 (gbact xs (k : Int)).m.nodes.length fc1_0, .slice fA1_1 (gbact xs (k : Int)).m.changes.length fc1_1] 36 (0, 0)))]) 101 rfl (sub_cons (sub_cons (sub_cons (sub_cons (sub_cons (sub_cons (sub_nil _) 6 rfl) 1007 rfl) 1006 rfl) 100 rfl) 990 rfl) 901 rfl) rfl
      have hll := (H.rd 2 rfl).le; unfold maxLen at hll
      have hwl := rwy_len sj.ways
      have hfew := (hj53_1).few
      refine hK16 _ _ ?_
      refine wp_seq_k fun khK20 hK20 => ?_
      refine wp_seq_k fun khK21 hK21 => ?_
      refine r_start [(1, .blk b29 (.cells #[.slice Al (rwy sj.ways).length cl, .int .i64 (gi sj.eps 0), .int .i64 (gi sj.eps 1), .int .i64 (gi sj.eps 2), .int .i64 (gi sj.eps 3), .int .i64 (gi sj.eps 4), .int .i64 (gi sj.eps 5), .int .i64 (gi sj.eps 6), .int .i64 (gi sj.eps 7), .int .i64 sj.lost] 29 (0, 0)))] (by kernel_rfl) H fun H => ?_
      have hS : SL [(1, .blk b29 (.cells #[.slice Al (rwy sj.ways).length cl, .int .i64 (gi sj.eps 0), .int .i64 (gi sj.eps 1), .int .i64 (gi sj.eps 2), .int .i64 (gi sj.eps 3), .int .i64 (gi sj.eps 4), .int .i64 (gi sj.eps 5), .int .i64 (gi sj.eps 6), .int .i64 (gi sj.eps 7), .int .i64 sj.lost] 29 (0, 0)))] _ := SL.of H (sub_cons (sub_nil _) 1 rfl)
      refine rT 0 F rfl (by kernel_rfl) pq rfl hS (fun w hS => x_move (F.t 8 rfl)) rfl fun a F => ?_
      refine rT 1 F rfl (by kernel_rfl) pq rfl hS (fun w hS => x_not (F.t 147 rfl)) rfl fun a F => ?_
      refine rT 2 F rfl (by kernel_rfl) pq rfl hS (fun w hS => x_move (F.t 148 rfl)) rfl fun a F => ?_
      refine rT 3 F rfl (by kernel_rfl) pq ((wo F rfl).trans rfl) hS (fun w hS => x_move (F.t 3 rfl)) rfl fun a F => ?_
      refine rT 5 F rfl (by kernel_rfl) pq ((wo F rfl).trans rfl) hS (fun w hS => x_move (F.t 4 rfl)) rfl fun a F => ?_
      refine rT 6 F rfl (by kernel_rfl) pq ((wo F rfl).trans rfl) hS (fun w hS => x_nil (F.t 152 rfl)) rfl fun a F => ?_
      refine rT 7 F rfl (by kernel_rfl) pq ((wo F rfl).trans rfl) hS (fun w hS => x_faddr Tryz.underlying29 rfl ty26 (by decide) (F.t 153 rfl) rfl) rfl fun a F => ?_
      refine rT 8 F rfl (by kernel_rfl) pq ((wo F rfl).trans rfl) hS (fun w hS => x_load1 ty26 (F.t 154 rfl) (blk_cell (SL.at_ hS 1 rfl) 0 rfl)) rfl fun a F => ?_
      refine rT 9 F rfl (by kernel_rfl) pq ((wo F rfl).trans rfl) hS (fun w hS => x_len_slice Tryz.underlying26 (F.t 155 rfl)) rfl fun a F => ?_
      refine r_do 4 rfl (by kernel_rfl) ((wo F rfl).trans rfl) rfl ?_
      refine w_call F (x_enter Tryz.func17 (by kernel_rfl) rfl (by simp only [bM, F.t 150 rfl] <;> rfl)) (blen_calls _ hj53_0 (H.okX 100 rfl) hj53_1) rfl rfl ?_
      rintro _ w ⟨rfl, hm_⟩; refine ⟨_, rfl, ?_⟩; clear F; intro a F; have H := H.same hm_
      refine aN (SL.of H (sub_cons (sub_nil _) 1 rfl)) fun hS => ?_
      refine rT 10 F rfl (by kernel_rfl) pq ((wo F rfl).trans rfl) hS (fun w hS => x_neq (F.t 151 rfl) (F.t 156 rfl)) rfl fun a F => ?_
      rw [show (!decide ((sj.ways.length : Int) = ((rwy sj.ways).length : Int))) = false from by simp [rwy_len]] at F
      refine rT 11 F rfl (by kernel_rfl) pq rfl hS (fun w hS => x_pickF (F.t 149 rfl) rfl (F.t 157 rfl)) rfl fun a F => ?_
      refine rT 12 F rfl (by kernel_rfl) pq rfl hS (fun w hS => x_move (F.t 158 rfl)) rfl fun a F => ?_
      refine rT 13 F rfl (by kernel_rfl) pq ((wo F rfl).trans rfl) hS (fun w hS => x_move (F.t 3 rfl)) rfl fun a F => ?_
      refine rT 15 F rfl (by kernel_rfl) pq ((wo F rfl).trans rfl) hS (fun w hS => x_move (F.t 4 rfl)) rfl fun a F => ?_
      refine rT 16 F rfl (by kernel_rfl) pq ((wo F rfl).trans rfl) hS (fun w hS => x_nil (F.t 162 rfl)) rfl fun a F => ?_
      refine rT 17 F rfl (by kernel_rfl) pq ((wo F rfl).trans rfl) hS (fun w hS => x_faddr Tryz.underlying29 rfl ty3 (by decide) (F.t 163 rfl) rfl) rfl fun a F => ?_
      refine rT 18 F rfl (by kernel_rfl) pq ((wo F rfl).trans rfl) hS (fun w hS => x_load1 ty3 (F.t 164 rfl) (blk_cell (SL.at_ hS 1 rfl) 9 rfl)) rfl fun a F => ?_
      refine r_do 14 rfl (by kernel_rfl) ((wo F rfl).trans rfl) rfl ?_
      refine w_call F (x_enter Tryz.func18 (by kernel_rfl) rfl (by simp only [bM, F.t 160 rfl] <;> rfl)) (lost_calls _ hj53_0 (H.okX 100 rfl) hj53_1) rfl rfl ?_
      rintro _ w ⟨rfl, hm_⟩; refine ⟨_, rfl, ?_⟩; clear F; intro a F; have H := H.same hm_
      refine aN (SL.of H (sub_cons (sub_nil _) 1 rfl)) fun hS => ?_
      refine rT 19 F rfl (by kernel_rfl) pq ((wo F rfl).trans rfl) hS (fun w hS => x_neq (F.t 161 rfl) (F.t 165 rfl)) rfl fun a F => ?_
      rw [show (!decide (sj.lost = sj.lost)) = false from by simp] at F
      refine rT 20 F rfl (by kernel_rfl) pq rfl hS (fun w hS => x_pickF (F.t 159 rfl) rfl (F.t 166 rfl)) rfl fun a F => ?_
      refine r_end (by kernel_rfl) ?_; clear hS
      refine hK21 _ _ ?_
      refine wp_cond_false (F.t 167 rfl) ?_
      refine wp_skip ?_
      refine hK20 _ _ ?_
      refine wp_seq_k fun khK22 hK22 => ?_
      refine sr fun khK23 hK23 => ?_
      refine la F rfl (x_assign rfl) fun a F => ?_
      refine wn (hK23 _ _ ?_)
      refine wp_block ?_
      refine wp_loop_ghost (fun n_ a w => ∃ j : Nat, n_ = 500 - j ∧ (j ≤ 500) ∧ (j ≤ (rwy sj.ways).length) ∧ Fr 244 a [(0, .slice A xs.length c), (3, .pointer (some ⟨bb, 0, none⟩)), (4, .pointer (some ⟨b29, 0, none⟩)), (5, .int .i64 (k : Int)), (18, .int .i64 (j : Int))] ∧ Hp (fun _ => False) w0 w [(1, .blk b29 (.cells #[.slice Al (rwy sj.ways).length cl, .int .i64 (gi sj.eps 0), .int .i64 (gi sj.eps 1), .int .i64 (gi sj.eps 2), .int .i64 (gi sj.eps 3), .int .i64 (gi sj.eps 4), .int .i64 (gi sj.eps 5), .int .i64 (gi sj.eps 6), .int .i64 (gi sj.eps 7), .int .i64 sj.lost] 29 (0, 0))), (2, .rd_ RwayE Al (rwy sj.ways) cl okl), (901, .rd_ BactE A xs c (fun k => k < w0.heap.size)), (990, .lib true), (100, Xj), (1006, .rd_ (.int .i64) (fA1_0) (gbact xs (k : Int)).m.nodes fc1_0 (fun k => k < w0.heap.size)), (1007, .rd_ ChgE (fA1_1) (gbact xs (k : Int)).m.changes fc1_1 (fun k => k < w0.heap.size)), (6, .blk b6 (.cells #[.int .i64 (gbact xs (k : Int)).kind, .int .i64 (gbact xs (k : Int)).i, .int .i64 (gbact xs (k : Int)).m.kind, .int .i64 (gbact xs (k : Int)).m.src, .int .i64 (gbact xs (k : Int)).m.dst, .int .i64 (gbact xs (k : Int)).m.tx, .slice fA1_0 (gbact xs (k : Int)).m.nodes.length fc1_0, .slice fA1_1 (gbact xs (k : Int)).m.changes.length fc1_1] 36 (0, 0)))]) (500) ?_ ?_
      ·exact ⟨0, rfl, by omega, by omega, (((((F.bare.add F 18 rfl).add F 5 rfl).add F 4 rfl).add F 3 rfl).add F 0 rfl), H.sub _ (sub_cons (sub_cons (sub_cons (sub_cons (sub_cons (sub_cons (sub_cons (sub_cons (sub_nil _) 6 rfl) 1007 rfl) 1006 rfl) 100 rfl) 990 rfl) 901 rfl) 2 rfl) 1 rfl)⟩
      ·rintro _ a w ⟨j, rfl, hq5_0, hq5_1, F, H⟩
       refine wp_seq_k fun khK24 hK24 => ?_
       refine sr fun khK25 hK25 => ?_
       refine la F rfl (x_move (F.t 18 rfl)) fun a F => ?_
       refine la F rfl (x_move (F.t 4 rfl)) fun a F => ?_
       refine la F rfl (x_nil (F.t 169 rfl)) fun a F => ?_
       refine la F rfl (x_faddr Tryz.underlying29 rfl ty26 (by decide) (F.t 170 rfl) rfl) fun a F => ?_
       refine la F rfl (x_load1 ty26 (F.t 171 rfl) (blk_cell (H.at 1 rfl) 0 rfl)) fun a F => ?_
       refine la F rfl (x_len_slice Tryz.underlying26 (F.t 172 rfl)) fun a F => ?_
       refine la F rfl (x_lss (F.t 168 rfl) (F.t 173 rfl)) fun a F => ?_
       refine wn (hK25 _ _ ?_)
       refine wp_cond_split (F.t 174 rfl) (fun hc174 => ?_) (fun hc174 => ?_)
       ·have hk174_4 := hc174; try simp only [bL] at hc174
        refine wp_skip ?_
        refine hK24 _ _ ?_
        refine wp_seq_k fun khK26 hK26 => ?_
        refine wp_block ?_
        refine sr fun khK27 hK27 => ?_
        have hyes_ := isW_yes (s := sj) (i := (j : Int)) (by omega) (by rw [← hwl]; omega)
        refine la F rfl (x_move (F.t 3 rfl)) fun a F => ?_
        refine la F rfl (x_move (F.t 18 rfl)) fun a F => ?_
        refine lp rfl ?_
        refine w_call F (x_enter Tryz.func19 (by kernel_rfl) rfl (by simp only [bM, F.t 178 rfl, F.t 179 rfl] <;> rfl)) (look_calls _ (H.holds 990 _ rfl) hj53_0 (H.okX 100 rfl) hj53_1 (j : Int)) rfl rfl ?_
        rintro _ w ⟨An74, cn74, Ac74, cc74, okm74, rfl, hm_, ⟨h1_, h2_⟩, hf_⟩; refine ⟨_, rfl, ?_⟩; clear F; intro a F; have h3_ := (H.same hm_).rdNew 74 (fun i A' hA k hk => H.inb i A' hA k (.inl hk)) h1_ hf_; have H := (h3_.1.rdNew 75 h3_.2 h2_ hf_).1
        refine la F rfl (x_move (F.t 180 rfl)) fun a F => ?_
        refine la F rfl (x_extract (F.t 177 rfl) rfl) fun a F => ?_
        refine la F rfl (x_extract (F.t 177 rfl) rfl) fun a F => ?_
        rw [(look_yes hyes_).2.1] at F
        refine lp rfl ?_
        refine w_alloc 19 F H rfl ty34 ?_
        clear F H; intro a w b19 F H
        refine lp rfl ?_
        refine w_storeA 19 H ty34 rfl (F.t 19 rfl) (F.t 181 rfl) rfl (by simp [Value.cells, Value.oneCell']) rfl ?_
        clear H; intro w H
        refine la F rfl (x_assign (F.t 182 rfl)) fun a F => ?_
        refine wn (hK27 _ _ ?_)
        refine wp_seq_k fun khK28 hK28 => ?_
        refine r_start [(1, .blk b29 (.cells #[.slice Al (rwy sj.ways).length cl, .int .i64 (gi sj.eps 0), .int .i64 (gi sj.eps 1), .int .i64 (gi sj.eps 2), .int .i64 (gi sj.eps 3), .int .i64 (gi sj.eps 4), .int .i64 (gi sj.eps 5), .int .i64 (gi sj.eps 6), .int .i64 (gi sj.eps 7), .int .i64 sj.lost] 29 (0, 0))), (2, .rd_ RwayE Al (rwy sj.ways) cl okl), (19, .blk b19 (.cells #[.int .i64 (lookM sj (j : Int)).kind, .int .i64 (lookM sj (j : Int)).src, .int .i64 (lookM sj (j : Int)).dst, .int .i64 (lookM sj (j : Int)).tx, .slice An74 (lookM sj (j : Int)).nodes.length cn74, .slice Ac74 (lookM sj (j : Int)).changes.length cc74] 34 (0, 0)))] (by kernel_rfl) H fun H => ?_
        have hS : SL [(1, .blk b29 (.cells #[.slice Al (rwy sj.ways).length cl, .int .i64 (gi sj.eps 0), .int .i64 (gi sj.eps 1), .int .i64 (gi sj.eps 2), .int .i64 (gi sj.eps 3), .int .i64 (gi sj.eps 4), .int .i64 (gi sj.eps 5), .int .i64 (gi sj.eps 6), .int .i64 (gi sj.eps 7), .int .i64 sj.lost] 29 (0, 0))), (2, .rd_ RwayE Al (rwy sj.ways) cl okl), (19, .blk b19 (.cells #[.int .i64 (lookM sj (j : Int)).kind, .int .i64 (lookM sj (j : Int)).src, .int .i64 (lookM sj (j : Int)).dst, .int .i64 (lookM sj (j : Int)).tx, .slice An74 (lookM sj (j : Int)).nodes.length cn74, .slice Ac74 (lookM sj (j : Int)).changes.length cc74] 34 (0, 0)))] _ := SL.of H (sub_cons (sub_cons (sub_cons (sub_nil _) 19 rfl) 2 rfl) 1 rfl)
        refine rT 0 F rfl (by kernel_rfl) pq rfl hS (fun w hS => x_loadn ty34 (F.t 19 rfl) rfl (blk_whole (SL.at_ hS 19 rfl))) rfl fun a F => ?_
        refine rT 1 F rfl (by kernel_rfl) pq rfl hS (fun w hS => x_move (F.t 4 rfl)) rfl fun a F => ?_
        refine rT 2 F rfl (by kernel_rfl) pq rfl hS (fun w hS => x_nil (F.t 184 rfl)) rfl fun a F => ?_
        refine rT 3 F rfl (by kernel_rfl) pq rfl hS (fun w hS => x_faddr Tryz.underlying29 rfl ty26 (by decide) (F.t 185 rfl) rfl) rfl fun a F => ?_
        refine rT 4 F rfl (by kernel_rfl) pq rfl hS (fun w hS => x_load1 ty26 (F.t 186 rfl) (blk_cell (SL.at_ hS 1 rfl) 0 rfl)) rfl fun a F => ?_
        refine rT 5 F rfl (by kernel_rfl) pq rfl hS (fun w hS => x_move (F.t 18 rfl)) rfl fun a F => ?_
        refine rT 6 F rfl (by kernel_rfl) pq rfl hS (fun w hS => x_iaddr_A Tryz.underlying26 ty48 ((H.rd 2 rfl)) (F.t 187 rfl) (F.t 188 rfl) (by omega) (by omega) _) rfl fun a F => ?_
        refine rT 7 F rfl (by kernel_rfl) pq rfl hS (fun w hS => x_faddrA ((SL.rd hS 2 rfl)) (by omega) _ Tryz.underlying48 rfl ty34 (by decide) (F.t 189 rfl) rfl) rfl fun a F => ?_
        obtain ⟨fA3_0, fc3_0, fA3_1, fc3_1, hfr3_0, hfr3_1, hf3_0, hf3_1, hf3_2, hf3_3, hf3_4, hf3_5, hf3_6, hfw3⟩ := rd_rway ((H.rd 2 rfl)) (grway_some (xs := (rwy sj.ways)) (i := (j : Int)) (by omega) (by omega))
        have H := H.subrd 2 rfl 3004 hfr3_0 (fun _ h => h)
        have H := H.subrd 2 rfl 3005 hfr3_1 (fun _ h => h)
        have H := H.subcels 2 rfl 3499 hfw3 (Rd.inok ((H.rd 2 rfl)) (by omega) _)
        have H := H.subcel 2 rfl 3500 hf3_0 (Rd.inok ((H.rd 2 rfl)) (by omega) _)
        have H := H.subcel 2 rfl 3501 hf3_1 (Rd.inok ((H.rd 2 rfl)) (by omega) _)
        have H := H.subcel 2 rfl 3502 hf3_2 (Rd.inok ((H.rd 2 rfl)) (by omega) _)
        have H := H.subcel 2 rfl 3503 hf3_3 (Rd.inok ((H.rd 2 rfl)) (by omega) _)
        have H := H.subcel 2 rfl 3504 hf3_4 (Rd.inok ((H.rd 2 rfl)) (by omega) _)
        have H := H.subcel 2 rfl 3505 hf3_5 (Rd.inok ((H.rd 2 rfl)) (by omega) _)
        have H := H.subcel 2 rfl 3506 hf3_6 (Rd.inok ((H.rd 2 rfl)) (by omega) _)
        refine r_do 8 rfl (by kernel_rfl) rfl rfl ?_
        refine w_at F (x_loadn (cs := #[.int .i64 (grway (rwy sj.ways) (j : Int)).m.kind, .int .i64 (grway (rwy sj.ways) (j : Int)).m.src, .int .i64 (grway (rwy sj.ways) (j : Int)).m.dst, .int .i64 (grway (rwy sj.ways) (j : Int)).m.tx, .slice fA3_0 (grway (rwy sj.ways) (j : Int)).m.nodes.length fc3_0, .slice fA3_1 (grway (rwy sj.ways) (j : Int)).m.changes.length fc3_1]) ty34 (F.t 190 rfl) rfl (pre_cells [.int .i64 (grway (rwy sj.ways) (j : Int)).m.kind, .int .i64 (grway (rwy sj.ways) (j : Int)).m.src, .int .i64 (grway (rwy sj.ways) (j : Int)).m.dst, .int .i64 (grway (rwy sj.ways) (j : Int)).m.tx, .slice fA3_0 (grway (rwy sj.ways) (j : Int)).m.nodes.length fc3_0, .slice fA3_1 (grway (rwy sj.ways) (j : Int)).m.changes.length fc3_1] [.int .i64 (grway (rwy sj.ways) (j : Int)).epoch] hfw3)) rfl rfl ?_
        clear F; intro a F
        refine aN (SL.of H (sub_cons (sub_cons (sub_cons (sub_nil _) 19 rfl) 2 rfl) 1 rfl)) fun hS => ?_
        refine r_do 9 rfl (by kernel_rfl) rfl rfl ?_
        refine w_call F (x_enter Tryz.func10 (by kernel_rfl) rfl (by simp only [bM, F.t 183 rfl, F.t 191 rfl] <;> rfl)) (r16same_calls _ ((H.rd 74 rfl)) ((H.rd 75 rfl)) ((H.rd 3004 rfl)) ((H.rd 3005 rfl)) (look_B hj53_1 _) (by rw [← look_rwy hyes_]; exact look_B hj53_1 _)) rfl rfl ?_
        rintro _ w ⟨rfl, hm_⟩; refine ⟨_, rfl, ?_⟩; clear F; intro a F; have H := H.same hm_
        refine aN (SL.of H (sub_cons (sub_cons (sub_cons (sub_nil _) 19 rfl) 2 rfl) 1 rfl)) fun hS => ?_
        rw [decide_eq_true (look_rwy hyes_)] at F
        refine rT 10 F rfl (by kernel_rfl) pq rfl hS (fun w hS => x_assign (F.t 192 rfl)) rfl fun a F => ?_
        refine r_end (by kernel_rfl) ?_; clear hS
        refine hK28 _ _ ?_
        refine sr fun khK29 hK29 => ?_
        refine la F rfl (x_move (F.t 20 rfl)) fun a F => ?_
        refine la F rfl (x_neq (F.t 193 rfl) rfl) fun a F => ?_
        refine la F rfl (x_move (F.t 194 rfl)) fun a F => ?_
        refine lg F rfl (x_move (F.t 21 rfl)) fun a F => ?_
        refine lg F rfl (x_not (F.t 196 rfl)) fun a F => ?_
        refine la F rfl (x_pickF (F.t 195 rfl) rfl (F.t 197 rfl)) fun a F => ?_
        refine wn (hK29 _ _ ?_)
        refine wp_cond_false (F.t 198 rfl) ?_
        refine wp_skip ?_
        refine hK26 _ _ ?_
        refine wp_region_lit ?_
        refine la F rfl (x_move (F.t 18 rfl)) fun a F => ?_
        refine la F rfl (x_add (F.t 175 rfl) rfl (w64 (by omega) (by omega))) fun a F => ?_
        refine la F rfl (x_assign (F.t 176 rfl)) fun a F => ?_
        refine wpList_nil ?_
        exact ⟨_, by omega, ⟨j + 1, rfl, by omega, by omega, (((((F.bare.add F 18 rfl).add F 5 rfl).add F 4 rfl).add F 3 rfl).add F 0 rfl), H.sub _ (sub_cons (sub_cons (sub_cons (sub_cons (sub_cons (sub_cons (sub_cons (sub_cons (sub_nil _) 6 rfl) 1007 rfl) 1006 rfl) 100 rfl) 990 rfl) 901 rfl) 2 rfl) 1 rfl)⟩⟩
       ·have hk174_5 := hc174; try simp only [bL] at hc174
        refine wp_exit ?_
        refine hK22 _ _ ?_
        refine sr fun khK30 hK30 => ?_
        refine la F rfl (x_assign rfl) fun a F => ?_
        refine wn (hK30 _ _ ?_)
        refine wp_block ?_
        refine wp_loop_ghost (fun n_ a w => ∃ j : Nat, n_ = 8 - j ∧ (j ≤ 8) ∧ Fr 244 a [(0, .slice A xs.length c), (3, .pointer (some ⟨bb, 0, none⟩)), (4, .pointer (some ⟨b29, 0, none⟩)), (5, .int .i64 (k : Int)), (22, .int .i64 (j : Int))] ∧ Hp (fun _ => False) w0 w [(1, .blk b29 (.cells #[.slice Al (rwy sj.ways).length cl, .int .i64 (gi sj.eps 0), .int .i64 (gi sj.eps 1), .int .i64 (gi sj.eps 2), .int .i64 (gi sj.eps 3), .int .i64 (gi sj.eps 4), .int .i64 (gi sj.eps 5), .int .i64 (gi sj.eps 6), .int .i64 (gi sj.eps 7), .int .i64 sj.lost] 29 (0, 0))), (2, .rd_ RwayE Al (rwy sj.ways) cl okl), (901, .rd_ BactE A xs c (fun k => k < w0.heap.size)), (990, .lib true), (100, Xj), (1006, .rd_ (.int .i64) (fA1_0) (gbact xs (k : Int)).m.nodes fc1_0 (fun k => k < w0.heap.size)), (1007, .rd_ ChgE (fA1_1) (gbact xs (k : Int)).m.changes fc1_1 (fun k => k < w0.heap.size)), (6, .blk b6 (.cells #[.int .i64 (gbact xs (k : Int)).kind, .int .i64 (gbact xs (k : Int)).i, .int .i64 (gbact xs (k : Int)).m.kind, .int .i64 (gbact xs (k : Int)).m.src, .int .i64 (gbact xs (k : Int)).m.dst, .int .i64 (gbact xs (k : Int)).m.tx, .slice fA1_0 (gbact xs (k : Int)).m.nodes.length fc1_0, .slice fA1_1 (gbact xs (k : Int)).m.changes.length fc1_1] 36 (0, 0)))]) (8) ?_ ?_
        ·exact ⟨0, rfl, by omega, (((((F.bare.add F 22 rfl).add F 5 rfl).add F 4 rfl).add F 3 rfl).add F 0 rfl), H.sub _ (sub_cons (sub_cons (sub_cons (sub_cons (sub_cons (sub_cons (sub_cons (sub_cons (sub_nil _) 6 rfl) 1007 rfl) 1006 rfl) 100 rfl) 990 rfl) 901 rfl) 2 rfl) 1 rfl)⟩
        ·rintro _ a w ⟨j, rfl, hq7_0, F, H⟩
         refine wp_seq_k fun khK31 hK31 => ?_
         refine sr fun khK32 hK32 => ?_
         refine la F rfl (x_move (F.t 22 rfl)) fun a F => ?_
         refine la F rfl (x_lss (F.t 199 rfl) rfl) fun a F => ?_
         refine wn (hK32 _ _ ?_)
         refine wp_cond_split (F.t 200 rfl) (fun hc200 => ?_) (fun hc200 => ?_)
         ·have hk200_6 := hc200; try simp only [bL] at hc200
          refine wp_skip ?_
          refine hK31 _ _ ?_
          refine wp_seq_k fun khK33 hK33 => ?_
          refine wp_block ?_
          refine wp_seq_k fun khK34 hK34 => ?_
          refine r_start [(1, .blk b29 (.cells #[.slice Al (rwy sj.ways).length cl, .int .i64 (gi sj.eps 0), .int .i64 (gi sj.eps 1), .int .i64 (gi sj.eps 2), .int .i64 (gi sj.eps 3), .int .i64 (gi sj.eps 4), .int .i64 (gi sj.eps 5), .int .i64 (gi sj.eps 6), .int .i64 (gi sj.eps 7), .int .i64 sj.lost] 29 (0, 0)))] (by kernel_rfl) H fun H => ?_
          have hS : SL [(1, .blk b29 (.cells #[.slice Al (rwy sj.ways).length cl, .int .i64 (gi sj.eps 0), .int .i64 (gi sj.eps 1), .int .i64 (gi sj.eps 2), .int .i64 (gi sj.eps 3), .int .i64 (gi sj.eps 4), .int .i64 (gi sj.eps 5), .int .i64 (gi sj.eps 6), .int .i64 (gi sj.eps 7), .int .i64 sj.lost] 29 (0, 0)))] _ := SL.of H (sub_cons (sub_nil _) 1 rfl)
          refine rT 0 F rfl (by kernel_rfl) pq rfl hS (fun w hS => x_move (F.t 3 rfl)) rfl fun a F => ?_
          refine rT 1 F rfl (by kernel_rfl) pq rfl hS (fun w hS => x_move (F.t 22 rfl)) rfl fun a F => ?_
          refine rT 3 F rfl (by kernel_rfl) pq rfl hS (fun w hS => x_move (F.t 4 rfl)) rfl fun a F => ?_
          refine rT 4 F rfl (by kernel_rfl) pq rfl hS (fun w hS => x_move (F.t 22 rfl)) rfl fun a F => ?_
          refine rT 5 F rfl (by kernel_rfl) pq rfl hS (fun w hS => x_nil (F.t 206 rfl)) rfl fun a F => ?_
          refine rT 6 F rfl (by kernel_rfl) pq rfl hS (fun w hS => x_faddr Tryz.underlying29 rfl ty27 (by decide) (F.t 208 rfl) rfl) rfl fun a F => ?_
          refine rT 7 F rfl (by kernel_rfl) pq rfl hS (fun w hS => x_iaddr_arr Tryz.underlying27 ty3 (F.t 209 rfl) (F.t 207 rfl) (by omega) (by show _ < (8 : Int); omega)) rfl fun a F => ?_
          refine r_do2 2 8 rfl rfl (by kernel_rfl) rfl rfl rfl rfl ?_ ?_
          ·
           refine w_call F (x_enter Tryz.func20 (by kernel_rfl) rfl (by simp only [bM, F.t 203 rfl, F.t 204 rfl] <;> rfl)) (epoch_calls _ hj53_0 (H.okX 100 rfl) hj53_1 (j : Int)) rfl rfl ?_
           rintro _ w ⟨rfl, hm_⟩; refine ⟨_, rfl, ?_⟩; clear F; intro a F; have H := H.same hm_
           refine aN (SL.of H (sub_cons (sub_nil _) 1 rfl)) fun hS => ?_
           rw [(rest_yes (s := sj) (n := (j : Int)) (in8_yes (by omega) (by omega))).2.2] at F
           refine r_do 8 rfl (by kernel_rfl) rfl rfl ?_
           refine w_at F (x_load1 ty3 (F.t 210 rfl) (blk_cell (H.at 1 rfl) _ (eps_at (by omega) (by omega)))) rfl rfl ?_
           clear F; intro a F
           refine aN (SL.of H (sub_cons (sub_nil _) 1 rfl)) fun hS => ?_
           refine rT 9 F rfl (by kernel_rfl) pq rfl hS (fun w hS => x_neq (F.t 205 rfl) (F.t 211 rfl)) rfl fun a F => ?_
           rw [show (!decide (gi sj.eps (j : Int) = gi sj.eps (j : Int))) = false from by simp] at F
           refine r_end (by kernel_rfl) ?_; clear hS
           refine hK34 _ _ ?_
           refine wp_cond_false (F.t 212 rfl) ?_
           refine wp_skip ?_
           refine hK33 _ _ ?_
           refine wp_region_lit ?_
           refine la F rfl (x_move (F.t 22 rfl)) fun a F => ?_
           refine la F rfl (x_add (F.t 201 rfl) rfl (w64 (by omega) (by omega))) fun a F => ?_
           refine la F rfl (x_assign (F.t 202 rfl)) fun a F => ?_
           refine wpList_nil ?_
           exact ⟨_, by omega, ⟨j + 1, rfl, by omega, (((((F.bare.add F 22 rfl).add F 5 rfl).add F 4 rfl).add F 3 rfl).add F 0 rfl), H.sub _ (sub_cons (sub_cons (sub_cons (sub_cons (sub_cons (sub_cons (sub_cons (sub_cons (sub_nil _) 6 rfl) 1007 rfl) 1006 rfl) 100 rfl) 990 rfl) 901 rfl) 2 rfl) 1 rfl)⟩⟩
          ·
           refine w_at F (x_load1 ty3 (F.t 210 rfl) (blk_cell (H.at 1 rfl) _ (eps_at (by omega) (by omega)))) rfl rfl ?_
           clear F; intro a F
           refine aN (SL.of H (sub_cons (sub_nil _) 1 rfl)) fun hS => ?_
           refine r_do 2 rfl (by kernel_rfl) rfl rfl ?_
           refine w_call F (x_enter Tryz.func20 (by kernel_rfl) rfl (by simp only [bM, F.t 203 rfl, F.t 204 rfl] <;> rfl)) (epoch_calls _ hj53_0 (H.okX 100 rfl) hj53_1 (j : Int)) rfl rfl ?_
           rintro _ w ⟨rfl, hm_⟩; refine ⟨_, rfl, ?_⟩; clear F; intro a F; have H := H.same hm_
           refine aN (SL.of H (sub_cons (sub_nil _) 1 rfl)) fun hS => ?_
           rw [(rest_yes (s := sj) (n := (j : Int)) (in8_yes (by omega) (by omega))).2.2] at F
           refine rT 9 F rfl (by kernel_rfl) pq rfl hS (fun w hS => x_neq (F.t 205 rfl) (F.t 211 rfl)) rfl fun a F => ?_
           rw [show (!decide (gi sj.eps (j : Int) = gi sj.eps (j : Int))) = false from by simp] at F
           refine r_end (by kernel_rfl) ?_; clear hS
           refine hK34 _ _ ?_
           refine wp_cond_false (F.t 212 rfl) ?_
           refine wp_skip ?_
           refine hK33 _ _ ?_
           refine wp_region_lit ?_
           refine la F rfl (x_move (F.t 22 rfl)) fun a F => ?_
           refine la F rfl (x_add (F.t 201 rfl) rfl (w64 (by omega) (by omega))) fun a F => ?_
           refine la F rfl (x_assign (F.t 202 rfl)) fun a F => ?_
           refine wpList_nil ?_
           exact ⟨_, by omega, ⟨j + 1, rfl, by omega, (((((F.bare.add F 22 rfl).add F 5 rfl).add F 4 rfl).add F 3 rfl).add F 0 rfl), H.sub _ (sub_cons (sub_cons (sub_cons (sub_cons (sub_cons (sub_cons (sub_cons (sub_cons (sub_nil _) 6 rfl) 1007 rfl) 1006 rfl) 100 rfl) 990 rfl) 901 rfl) 2 rfl) 1 rfl)⟩⟩
         ·have hk200_7 := hc200; try simp only [bL] at hc200
          have H := H.bundle (L := [(1, .blk b29 (.cells #[.slice Al (rwy sj.ways).length cl, .int .i64 (gi sj.eps 0), .int .i64 (gi sj.eps 1), .int .i64 (gi sj.eps 2), .int .i64 (gi sj.eps 3), .int .i64 (gi sj.eps 4), .int .i64 (gi sj.eps 5), .int .i64 (gi sj.eps 6), .int .i64 (gi sj.eps 7), .int .i64 sj.lost] 29 (0, 0))), (2, .rd_ RwayE Al (rwy sj.ways) cl okl)]) (N := [(901, .rd_ BactE A xs c (fun k => k < w0.heap.size)), (990, .lib true), (100, Xj), (1006, .rd_ (.int .i64) (fA1_0) (gbact xs (k : Int)).m.nodes fc1_0 (fun k => k < w0.heap.size)), (1007, .rd_ ChgE (fA1_1) (gbact xs (k : Int)).m.changes fc1_1 (fun k => k < w0.heap.size)), (6, .blk b6 (.cells #[.int .i64 (gbact xs (k : Int)).kind, .int .i64 (gbact xs (k : Int)).i, .int .i64 (gbact xs (k : Int)).m.kind, .int .i64 (gbact xs (k : Int)).m.src, .int .i64 (gbact xs (k : Int)).m.dst, .int .i64 (gbact xs (k : Int)).m.tx, .slice fA1_0 (gbact xs (k : Int)).m.nodes.length fc1_0, .slice fA1_1 (gbact xs (k : Int)).m.changes.length fc1_1] 36 (0, 0)))]) 101 (sub_cons (sub_cons (sub_nil _) 2 rfl) 1 rfl) (sub_cons (sub_cons (sub_cons (sub_cons (sub_cons (sub_cons (sub_nil _) 6 rfl) 1007 rfl) 1006 rfl) 100 rfl) 990 rfl) 901 rfl) (apart_cons rfl (apart_cons rfl (apart_nil _)))
          refine wp_exit ?_
          refine hK10 _ _ ?_
          refine wp_region_lit ?_
          refine la F rfl (x_move (F.t 5 rfl)) fun a F => ?_
          refine la F rfl (x_add (F.t 40 rfl) rfl (w64 (by omega) (by omega))) fun a F => ?_
          refine la F rfl (x_assign (F.t 41 rfl)) fun a F => ?_
          refine wpList_nil ?_
          exact ⟨_, by omega, ⟨k + 1, Xj, sj, Asn.all [(1, .blk b29 (.cells #[.slice Al (rwy sj.ways).length cl, .int .i64 (gi sj.eps 0), .int .i64 (gi sj.eps 1), .int .i64 (gi sj.eps 2), .int .i64 (gi sj.eps 3), .int .i64 (gi sj.eps 4), .int .i64 (gi sj.eps 5), .int .i64 (gi sj.eps 6), .int .i64 (gi sj.eps 7), .int .i64 sj.lost] 29 (0, 0))), (2, .rd_ RwayE Al (rwy sj.ways) cl okl)], rfl, by omega, hj53_0, hj53_1, (⟨_, _, _, rfl⟩ : RBagA 29 b29 sj _), by omega, ((((F.bare.add F 5 rfl).add F 4 rfl).add F 3 rfl).add F 0 rfl), H.sub _ (sub_cons (sub_cons (sub_cons (sub_cons (sub_nil _) 101 rfl) 100 rfl) 990 rfl) 901 rfl)⟩⟩
     refine wp_cond_split (F.t 53 rfl) (fun hc53 => ?_) (fun hc53 => ?_)
     ·have hk53_8 := hc53; try simp only [bL] at hc53
      refine sr fun khK35 hK35 => ?_
      refine la F rfl (x_faddr Tryz.underlying36 rfl ty34 (by decide) (F.t 6 rfl) rfl) fun a F => ?_
      refine la F rfl (x_loadn (cs := #[.int .i64 (gbact xs (k : Int)).m.kind, .int .i64 (gbact xs (k : Int)).m.src, .int .i64 (gbact xs (k : Int)).m.dst, .int .i64 (gbact xs (k : Int)).m.tx, .slice fA1_0 (gbact xs (k : Int)).m.nodes.length fc1_0, .slice fA1_1 (gbact xs (k : Int)).m.changes.length fc1_1]) ty34 (F.t 55 rfl) rfl (blk_sub (H.at 6 rfl) 2 6 rfl)) fun a F => ?_
      refine lp rfl ?_
      refine w_alloc 9 F H rfl ty34 ?_
      clear F H; intro a w b9 F H
      refine lp rfl ?_
      refine w_storeA 9 H ty34 rfl (F.t 9 rfl) (F.t 56 rfl) rfl (by simp [Value.cells, Value.oneCell']) rfl ?_
      clear H; intro w H
      refine wn (hK35 _ _ ?_)
      refine sr fun khK36 hK36 => ?_
      refine lp rfl ?_
      refine w_lit0 (.int .i64) 57 F H rfl Tryz.underlying31 ty3 ?_
      clear F H; intro a w b57 F H
      refine la F rfl (x_faddr Tryz.underlying36 rfl ty34 (by decide) (F.t 6 rfl) rfl) fun a F => ?_
      refine la F rfl (x_faddr Tryz.underlying34 rfl ty31 (by decide) (F.t 58 rfl) rfl) fun a F => ?_
      refine la F rfl (x_load1 ty31 (F.t 59 rfl) (blk_cell (H.at 6 rfl) 6 rfl)) fun a F => ?_
      refine lp rfl ?_
      refine w_append 57 1006 (xs := ([])) (ys := ((gbact xs (k : Int)).m.nodes)) F H rfl Tryz.underlying31 ty3 rfl rfl rfl rfl ((H.rd 1006 rfl)) (by intro k_ hk_; exact .inr hk_) (F.t 57 rfl) (F.t 60 rfl) (by simp only [List.length_nil, List.length_append]; omega) (by simp only [List.length_nil, List.length_append, maxLen]; omega) (fun _ => False) (fun w' v' h => row_flat h _) (fun k_ hk_ => hk_.elim) ?_
      clear F H; intro a w v61 F H
      obtain ⟨A61, c61, rfl⟩ := (H.row 57 rfl).form
      rw [List.nil_append] at H F
      refine la F rfl (x_faddr Tryz.underlying34 rfl ty31 (by decide) (F.t 9 rfl) rfl) fun a F => ?_
      refine lp rfl ?_
      refine w_store 9 H ty31 rfl (F.t 62 rfl) (F.t 61 rfl) rfl (one1 rfl rfl) (by first | decide | exact Nat.le_of_ble_eq_true rfl) ?_
      clear H; intro w H
      refine wn (hK36 _ _ ?_)
      refine wp_seq_k fun khK37 hK37 => ?_
      refine r_start [(6, .blk b6 (.cells #[.int .i64 (gbact xs (k : Int)).kind, .int .i64 (gbact xs (k : Int)).i, .int .i64 (gbact xs (k : Int)).m.kind, .int .i64 (gbact xs (k : Int)).m.src, .int .i64 (gbact xs (k : Int)).m.dst, .int .i64 (gbact xs (k : Int)).m.tx, .slice fA1_0 (gbact xs (k : Int)).m.nodes.length fc1_0, .slice fA1_1 (gbact xs (k : Int)).m.changes.length fc1_1] 36 (0, 0))), (9, .blk b9 (.cells #[.int .i64 (gbact xs (k : Int)).m.kind, .int .i64 (gbact xs (k : Int)).m.src, .int .i64 (gbact xs (k : Int)).m.dst, .int .i64 (gbact xs (k : Int)).m.tx, .slice A61 (gbact xs (k : Int)).m.nodes.length c61, .slice fA1_1 (gbact xs (k : Int)).m.changes.length fc1_1] 34 (0, 0)))] (by kernel_rfl) H fun H => ?_
      have hS : SL [(6, .blk b6 (.cells #[.int .i64 (gbact xs (k : Int)).kind, .int .i64 (gbact xs (k : Int)).i, .int .i64 (gbact xs (k : Int)).m.kind, .int .i64 (gbact xs (k : Int)).m.src, .int .i64 (gbact xs (k : Int)).m.dst, .int .i64 (gbact xs (k : Int)).m.tx, .slice fA1_0 (gbact xs (k : Int)).m.nodes.length fc1_0, .slice fA1_1 (gbact xs (k : Int)).m.changes.length fc1_1] 36 (0, 0))), (9, .blk b9 (.cells #[.int .i64 (gbact xs (k : Int)).m.kind, .int .i64 (gbact xs (k : Int)).m.src, .int .i64 (gbact xs (k : Int)).m.dst, .int .i64 (gbact xs (k : Int)).m.tx, .slice A61 (gbact xs (k : Int)).m.nodes.length c61, .slice fA1_1 (gbact xs (k : Int)).m.changes.length fc1_1] 34 (0, 0)))] _ := SL.of H (sub_cons (sub_cons (sub_nil _) 9 rfl) 6 rfl)
      refine rT 0 F rfl (by kernel_rfl) pq rfl hS (fun w hS => x_move (F.t 3 rfl)) rfl fun a F => ?_
      refine rT 1 F rfl (by kernel_rfl) pq rfl hS (fun w hS => x_loadn ty34 (F.t 9 rfl) rfl (blk_whole (SL.at_ hS 9 rfl))) rfl fun a F => ?_
      refine rT 3 F rfl (by kernel_rfl) pq rfl hS (fun w hS => x_move (F.t 4 rfl)) rfl fun a F => ?_
      refine rT 4 F rfl (by kernel_rfl) pq rfl hS (fun w hS => x_faddr Tryz.underlying36 rfl ty34 (by decide) (F.t 6 rfl) rfl) rfl fun a F => ?_
      refine rT 5 F rfl (by kernel_rfl) pq rfl hS (fun w hS => x_loadn (cs := #[.int .i64 (gbact xs (k : Int)).m.kind, .int .i64 (gbact xs (k : Int)).m.src, .int .i64 (gbact xs (k : Int)).m.dst, .int .i64 (gbact xs (k : Int)).m.tx, .slice fA1_0 (gbact xs (k : Int)).m.nodes.length fc1_0, .slice fA1_1 (gbact xs (k : Int)).m.changes.length fc1_1]) ty34 (F.t 67 rfl) rfl (blk_sub (SL.at_ hS 6 rfl) 2 6 rfl)) rfl fun a F => ?_
      refine r_do 2 rfl (by kernel_rfl) rfl rfl ?_
      refine w_call F (x_enter Tryz.func6 (by kernel_rfl) rfl (by simp only [bM, F.t 63 rfl, F.t 64 rfl] <;> rfl)) (send_calls (m := (gbact xs (k : Int)).m) _ (H.holds 990 _ rfl) hq0_1 (H.okX 100 rfl) hq0_2 (fun k h hx => H.sep 100 990 _ _ (by decide) rfl rfl k hx (.inr h)) (Row.rd (ok' := fun k_ => (fun _ => False) k_ ∨ (.slice A61 (gbact xs (k : Int)).m.nodes.length c61 : Value).ownBlock = some k_) (H.row 57 rfl) (fun _ hk_ _ => .inl hk_) (fun _ hk_ => .inr hk_)) ((H.rd 1007 rfl)) hbm (fun k h => H.inb 57 _ rfl k (by rcases h with h | h; exact h.elim; exact .inl h)) (fun k h => H.inb 1007 _ rfl k (.inr h)) (fun k h hx => H.sep 100 57 _ _ (by decide) rfl rfl k hx (by rcases h with h | h; exact h.elim; exact .inl h)) (fun k h hx => H.sep 100 1007 _ _ (by decide) rfl rfl k hx (.inr h))) rfl rfl ?_
      rintro _ w ⟨X1, rfl, hX1, hg_⟩; refine ⟨_, rfl, ?_⟩; clear F; intro a F; have H := H.grew 100 rfl hg_ (fun k hk => hk.elim)
      refine aN (SL.of H (sub_cons (sub_cons (sub_nil _) 9 rfl) 6 rfl)) fun hS => ?_
      refine r_do 6 rfl (by kernel_rfl) rfl rfl ?_
      refine w_call F (x_enter Tryz.func7 (by kernel_rfl) rfl (by simp only [bM, F.t 66 rfl, F.t 68 rfl] <;> rfl)) (rsend_calls (m := (gbact xs (k : Int)).m) _ hq0_3 (H.okX 101 rfl) hq0_2 ((H.rd 1006 rfl)) ((H.rd 1007 rfl)) hbm (fun k h => H.inb 1006 _ rfl k (.inr h)) (fun k h hx => H.sep 101 1006 _ _ (by decide) rfl rfl k hx (.inr h)) (fun k h => H.inb 1007 _ rfl k (.inr h)) (fun k h hx => H.sep 101 1007 _ _ (by decide) rfl rfl k hx (.inr h))) rfl rfl ?_
      rintro _ w ⟨Y2, rfl, hY2, hg_⟩; refine ⟨_, rfl, ?_⟩; clear F; intro a F; have H := H.grew 101 rfl hg_ (fun k hk => hk.elim (fun h => ⟨1006, _, rfl, h⟩) (fun h => ⟨1007, _, rfl, h⟩))
      refine aN (SL.of H (sub_cons (sub_cons (sub_nil _) 9 rfl) 6 rfl)) fun hS => ?_
      refine rT 7 F rfl (by kernel_rfl) pq rfl hS (fun w hS => x_eql (F.t 65 rfl) (F.t 69 rfl)) rfl fun a F => ?_
      rw [decide_eq_true (rfl : sendE s (gbact xs (k : Int)).m = sendE s (gbact xs (k : Int)).m)] at F
      refine rT 8 F rfl (by kernel_rfl) pq rfl hS (fun w hS => x_assign (F.t 70 rfl)) rfl fun a F => ?_
      refine r_end (by kernel_rfl) ?_; clear hS
      refine hK37 _ _ ?_
      refine sr fun khK38 hK38 => ?_
      refine la F rfl (x_assign rfl) fun a F => ?_
      refine wn (hK38 _ _ ?_)
      refine wp_block ?_
      refine wp_loop_ghost (fun n_ a w => ∃ j : Nat, ∃ rs : List Int, n_ = (gbact xs (k : Int)).m.nodes.length - j ∧ (j ≤ rs.length) ∧ (rs.length = (gbact xs (k : Int)).m.nodes.length) ∧ Fr 244 a [(0, .slice A xs.length c), (3, .pointer (some ⟨bb, 0, none⟩)), (4, .pointer (some ⟨b29, 0, none⟩)), (5, .int .i64 (k : Int)), (8, .bool true), (9, .pointer (some ⟨b9, 0, none⟩)), (10, .int .i64 (j : Int))] ∧ Hp (fun _ => False) w0 w [(901, .rd_ BactE A xs c (fun k => k < w0.heap.size)), (990, .lib true), (100, X1), (101, Y2), (1006, .rd_ (.int .i64) (fA1_0) (gbact xs (k : Int)).m.nodes fc1_0 (fun k => k < w0.heap.size)), (1007, .rd_ ChgE (fA1_1) (gbact xs (k : Int)).m.changes fc1_1 (fun k => k < w0.heap.size)), (6, .blk b6 (.cells #[.int .i64 (gbact xs (k : Int)).kind, .int .i64 (gbact xs (k : Int)).i, .int .i64 (gbact xs (k : Int)).m.kind, .int .i64 (gbact xs (k : Int)).m.src, .int .i64 (gbact xs (k : Int)).m.dst, .int .i64 (gbact xs (k : Int)).m.tx, .slice fA1_0 (gbact xs (k : Int)).m.nodes.length fc1_0, .slice fA1_1 (gbact xs (k : Int)).m.changes.length fc1_1] 36 (0, 0))), (9, .blk b9 (.cells #[.int .i64 (gbact xs (k : Int)).m.kind, .int .i64 (gbact xs (k : Int)).m.src, .int .i64 (gbact xs (k : Int)).m.dst, .int .i64 (gbact xs (k : Int)).m.tx, .slice A61 rs.length c61, .slice fA1_1 (gbact xs (k : Int)).m.changes.length fc1_1] 34 (0, 0))), (57, .row (.int .i64) 3 (.slice A61 rs.length c61) rs (fun _ => False))]) ((gbact xs (k : Int)).m.nodes.length) ?_ ?_
      ·exact ⟨0, (gbact xs (k : Int)).m.nodes, rfl, by omega, rfl, (((((((F.bare.add F 10 rfl).add F 9 rfl).add F 8 rfl).add F 5 rfl).add F 4 rfl).add F 3 rfl).add F 0 rfl), H.sub _ (sub_cons (sub_cons (sub_cons (sub_cons (sub_cons (sub_cons (sub_cons (sub_cons (sub_cons (sub_nil _) 57 rfl) 9 rfl) 6 rfl) 1007 rfl) 1006 rfl) 101 rfl) 100 rfl) 990 rfl) 901 rfl)⟩
      ·rintro _ a w ⟨j, rs, rfl, hq3_0, hq3_1, F, H⟩
       refine wp_seq_k fun khK39 hK39 => ?_
       refine sr fun khK40 hK40 => ?_
       refine la F rfl (x_move (F.t 10 rfl)) fun a F => ?_
       refine la F rfl (x_faddr Tryz.underlying34 rfl ty31 (by decide) (F.t 9 rfl) rfl) fun a F => ?_
       refine la F rfl (x_load1 ty31 (F.t 72 rfl) (blk_cell (H.at 9 rfl) 4 rfl)) fun a F => ?_
       refine la F rfl (x_len_slice Tryz.underlying31 (F.t 73 rfl)) fun a F => ?_
       refine la F rfl (x_lss (F.t 71 rfl) (F.t 74 rfl)) fun a F => ?_
       refine wn (hK40 _ _ ?_)
       refine wp_cond_split (F.t 75 rfl) (fun hc75 => ?_) (fun hc75 => ?_)
       ·have hk75_9 := hc75; try simp only [bL] at hc75
        refine wp_skip ?_
        refine hK39 _ _ ?_
        refine wp_seq_k fun khK41 hK41 => ?_
        refine wp_block ?_
        refine wp_region_lit ?_
        refine la F rfl (x_faddr Tryz.underlying34 rfl ty31 (by decide) (F.t 9 rfl) rfl) fun a F => ?_
        refine la F rfl (x_load1 ty31 (F.t 78 rfl) (blk_cell (H.at 9 rfl) 4 rfl)) fun a F => ?_
        refine la F rfl (x_move (F.t 10 rfl)) fun a F => ?_
        refine la F rfl (x_iaddr_A Tryz.underlying31 ty3 (Row.rd (ok' := fun k_ => (fun _ => False) k_ ∨ (.slice A61 rs.length c61 : Value).ownBlock = some k_) (H.row 57 rfl) (fun _ hk_ _ => .inl hk_) (fun _ hk_ => .inr hk_)) (F.t 79 rfl) (F.t 80 rfl) (by omega) (by omega) _) fun a F => ?_
        refine lp rfl ?_
        refine w_storeEl 57 j 0 (v := .int .i64 99) (x0 := gi rs (j : Int)) 99 (fun _ => False) H ty3 rfl (gi_some (i := (j : Int)) (by omega) (by omega)) (F.t 81 rfl) rfl rfl (by simp [Value.cells, Value.oneCell']) (by decide) (fun cs hcs => by have h_ : cs = [.int .i64 _] := hcs; subst h_; rfl) (fun _ h => h) (fun _ h => .inl h) ?_
        clear H; intro w H
        have H : Hp (fun _ => False) w0 w [(901, .rd_ BactE A xs c (fun k => k < w0.heap.size)), (990, .lib true), (100, X1), (101, Y2), (1006, .rd_ (.int .i64) (fA1_0) (gbact xs (k : Int)).m.nodes fc1_0 (fun k => k < w0.heap.size)), (1007, .rd_ ChgE (fA1_1) (gbact xs (k : Int)).m.changes fc1_1 (fun k => k < w0.heap.size)), (6, .blk b6 (.cells #[.int .i64 (gbact xs (k : Int)).kind, .int .i64 (gbact xs (k : Int)).i, .int .i64 (gbact xs (k : Int)).m.kind, .int .i64 (gbact xs (k : Int)).m.src, .int .i64 (gbact xs (k : Int)).m.dst, .int .i64 (gbact xs (k : Int)).m.tx, .slice fA1_0 (gbact xs (k : Int)).m.nodes.length fc1_0, .slice fA1_1 (gbact xs (k : Int)).m.changes.length fc1_1] 36 (0, 0))), (9, .blk b9 (.cells #[.int .i64 (gbact xs (k : Int)).m.kind, .int .i64 (gbact xs (k : Int)).m.src, .int .i64 (gbact xs (k : Int)).m.dst, .int .i64 (gbact xs (k : Int)).m.tx, .slice A61 (rs.set j 99).length c61, .slice fA1_1 (gbact xs (k : Int)).m.changes.length fc1_1] 34 (0, 0))), (57, .row (.int .i64) 3 (.slice A61 (rs.set j 99).length c61) (rs.set j 99) (fun _ => False))] := by simp only [List.length_set]; exact H.sub _ (sub_cons (sub_cons (sub_cons (sub_cons (sub_cons (sub_cons (sub_cons (sub_cons (sub_cons (sub_nil _) 57 rfl) 9 rfl) 6 rfl) 1007 rfl) 1006 rfl) 101 rfl) 100 rfl) 990 rfl) 901 rfl)
        refine wn (hK41 _ _ ?_)
        refine wp_region_lit ?_
        refine la F rfl (x_move (F.t 10 rfl)) fun a F => ?_
        refine la F rfl (x_add (F.t 76 rfl) rfl (w64 (by omega) (by omega))) fun a F => ?_
        refine la F rfl (x_assign (F.t 77 rfl)) fun a F => ?_
        refine wpList_nil ?_
        exact ⟨_, by omega, ⟨j + 1, (rs.set j 99), rfl, by rw [List.length_set]; omega, by rw [List.length_set]; omega, (((((((F.bare.add F 10 rfl).add F 9 rfl).add F 8 rfl).add F 5 rfl).add F 4 rfl).add F 3 rfl).add F 0 rfl), H.sub _ (sub_cons (sub_cons (sub_cons (sub_cons (sub_cons (sub_cons (sub_cons (sub_cons (sub_cons (sub_nil _) 57 rfl) 9 rfl) 6 rfl) 1007 rfl) 1006 rfl) 101 rfl) 100 rfl) 990 rfl) 901 rfl)⟩⟩
       ·have hk75_10 := hc75; try simp only [bL] at hc75
        refine wp_exit ?_
        exact hJ53 _ _ X1 (sendS s (gbact xs (k : Int)).m) Y2 hX1 (send_ok hq0_2 hbm) hY2 (((((F.bare.add F 8 rfl).add F 5 rfl).add F 4 rfl).add F 3 rfl).add F 0 rfl) (H.sub _ (sub_cons (sub_cons (sub_cons (sub_cons (sub_cons (sub_cons (sub_cons (sub_nil _) 6 rfl) 1007 rfl) 1006 rfl) 101 rfl) 100 rfl) 990 rfl) 901 rfl))
     ·have hk53_11 := hc53; try simp only [bL] at hc53
      refine sr fun khK42 hK42 => ?_
      refine la F rfl (x_eql (F.t 52 rfl) rfl) fun a F => ?_
      refine la F rfl (x_assign (F.t 83 rfl)) fun a F => ?_
      refine wn (hK42 _ _ ?_)
      refine wp_cond_split (F.t 82 rfl) (fun hc82 => ?_) (fun hc82 => ?_)
      ·have hk82_12 := hc82; try simp only [bL] at hc82
       refine sr fun khK43 hK43 => ?_
       refine la F rfl (x_move (F.t 3 rfl)) fun a F => ?_
       refine la F rfl (x_faddr Tryz.underlying36 rfl ty3 (by decide) (F.t 6 rfl) rfl) fun a F => ?_
       refine la F rfl (x_load1 ty3 (F.t 86 rfl) (blk_cell (H.at 6 rfl) 1 rfl)) fun a F => ?_
       refine lp rfl ?_
       refine w_call F (x_enter Tryz.func8 (by kernel_rfl) rfl (by simp only [bM, F.t 85 rfl, F.t 87 rfl] <;> rfl)) (take_calls _ (H.holds 990 _ rfl) hq0_1 (H.okX 100 rfl) hq0_2 (fun k h hx => H.sep 100 990 _ _ (by decide) rfl rfl k hx (.inr h)) ((gbact xs (k : Int)).i)) rfl rfl ?_
       rintro _ w ⟨X1, An70, cn70, Ac70, cc70, okm70, rfl, hX1, hg_, ⟨h1_, h2_⟩, hf_, hap_⟩; refine ⟨_, rfl, ?_⟩; clear F; intro a F; have hHo := H; have H := hHo.grew 100 rfl hg_ (fun k hk => hk.elim); have H := H.readNew (w := _) 100 70 (own_old hHo) (fun Y hY => by cases hY; exact hap_) h1_ hf_; have H := H.readNew 100 71 (own_old2 hHo) (fun Y hY => by cases hY; exact hap_) h2_ hf_
       refine la F rfl (x_move (F.t 88 rfl)) fun a F => ?_
       refine la F rfl (x_extract (F.t 84 rfl) rfl) fun a F => ?_
       refine la F rfl (x_extract (F.t 84 rfl) rfl) fun a F => ?_
       refine la F rfl (x_extract (F.t 84 rfl) rfl) fun a F => ?_
       refine lp rfl ?_
       refine w_alloc 11 F H rfl ty34 ?_
       clear F H; intro a w b11 F H
       refine lp rfl ?_
       refine w_storeA 11 H ty34 rfl (F.t 11 rfl) (F.t 89 rfl) rfl (by simp [Value.cells, Value.oneCell']) rfl ?_
       clear H; intro w H
       refine la F rfl (x_assign (F.t 90 rfl)) fun a F => ?_
       refine la F rfl (x_assign (F.t 91 rfl)) fun a F => ?_
       refine wn (hK43 _ _ ?_)
       refine sr fun khK44 hK44 => ?_
       refine la F rfl (x_move (F.t 4 rfl)) fun a F => ?_
       refine la F rfl (x_faddr Tryz.underlying36 rfl ty3 (by decide) (F.t 6 rfl) rfl) fun a F => ?_
       refine la F rfl (x_load1 ty3 (F.t 94 rfl) (blk_cell (H.at 6 rfl) 1 rfl)) fun a F => ?_
       refine lp rfl ?_
       refine w_call F (x_enter Tryz.func9 (by kernel_rfl) rfl (by simp only [bM, F.t 93 rfl, F.t 95 rfl] <;> rfl)) (rtake_calls _ hq0_3 (H.okX 101 rfl) hq0_2 ((gbact xs (k : Int)).i)) rfl rfl ?_
       rintro _ w ⟨Y2, An72, cn72, Ac72, cc72, okm72, rfl, hY2, hg_, ⟨h1_, h2_⟩, hsub_, hap_⟩; refine ⟨_, rfl, ?_⟩; clear F; intro a F; have hHo := H; have H := Hp.readOld2 101 72 73 hHo (hHo.grew 101 rfl hg_ (fun k hk => hk.elim)) rfl h1_ h2_ hsub_ hap_ hg_.mods.size
       refine la F rfl (x_move (F.t 96 rfl)) fun a F => ?_
       refine la F rfl (x_extract (F.t 92 rfl) rfl) fun a F => ?_
       refine la F rfl (x_extract (F.t 92 rfl) rfl) fun a F => ?_
       refine la F rfl (x_extract (F.t 92 rfl) rfl) fun a F => ?_
       refine lp rfl ?_
       refine w_alloc 14 F H rfl ty34 ?_
       clear F H; intro a w b14 F H
       refine lp rfl ?_
       refine w_storeA 14 H ty34 rfl (F.t 14 rfl) (F.t 97 rfl) rfl (by simp [Value.cells, Value.oneCell']) rfl ?_
       clear H; intro w H
       refine la F rfl (x_assign (F.t 98 rfl)) fun a F => ?_
       refine la F rfl (x_assign (F.t 99 rfl)) fun a F => ?_
       refine wn (hK44 _ _ ?_)
       refine sr fun khK45 hK45 => ?_
       refine la F rfl (x_loadn ty34 (F.t 11 rfl) rfl (blk_whole (H.at 11 rfl))) fun a F => ?_
       refine la F rfl (x_loadn ty34 (F.t 14 rfl) rfl (blk_whole (H.at 14 rfl))) fun a F => ?_
       refine lp rfl ?_
       refine w_call F (x_enter Tryz.func10 (by kernel_rfl) rfl (by simp only [bM, F.t 100 rfl, F.t 101 rfl] <;> rfl)) (r16same_calls _ ((H.rd 70 rfl)) ((H.rd 71 rfl)) ((H.rd 72 rfl)) ((H.rd 73 rfl)) (look_B hq0_2 _) (look_B hq0_2 _)) rfl rfl ?_
       rintro _ w ⟨rfl, hm_⟩; refine ⟨_, rfl, ?_⟩; clear F; intro a F; have H := H.same hm_
       rw [decide_eq_true (rfl : lookM s (gbact xs (k : Int)).i = lookM s (gbact xs (k : Int)).i)] at F
       refine la F rfl (x_assign (F.t 102 rfl)) fun a F => ?_
       refine wn (hK45 _ _ ?_)
       refine wp_region_lit ?_
       refine la F rfl (x_move (F.t 17 rfl)) fun a F => ?_
       refine la F rfl (x_move (F.t 103 rfl)) fun a F => ?_
       refine lg F rfl (x_move (F.t 12 rfl)) fun a F => ?_
       refine lg F rfl (x_move (F.t 15 rfl)) fun a F => ?_
       refine lg F rfl (x_eqb (F.t 105 rfl) (F.t 106 rfl) Tryz.underlying4) fun a F => ?_
       rw [beq_self_eq_true (freshS s (gbact xs (k : Int)).i)] at F
       refine la F rfl (x_pickT (F.t 104 rfl) rfl (F.t 107 rfl)) fun a F => ?_
       refine la F rfl (x_move (F.t 108 rfl)) fun a F => ?_
       refine lg F rfl (x_move (F.t 13 rfl)) fun a F => ?_
       refine lg F rfl (x_move (F.t 16 rfl)) fun a F => ?_
       refine lg F rfl (x_eql (F.t 110 rfl) (F.t 111 rfl)) fun a F => ?_
       rw [decide_eq_true (rfl : lookE s (gbact xs (k : Int)).i = lookE s (gbact xs (k : Int)).i)] at F
       refine la F rfl (x_pickT (F.t 109 rfl) rfl (F.t 112 rfl)) fun a F => ?_
       refine la F rfl (x_assign (F.t 113 rfl)) fun a F => ?_
       refine wpList_nil ?_
       exact hJ53 _ _ X1 (takeS s ((gbact xs (k : Int)).i)) Y2 hX1 (take_ok hq0_2 ((gbact xs (k : Int)).i)) hY2 (((((F.bare.add F 8 rfl).add F 5 rfl).add F 4 rfl).add F 3 rfl).add F 0 rfl) (H.sub _ (sub_cons (sub_cons (sub_cons (sub_cons (sub_cons (sub_cons (sub_cons (sub_nil _) 6 rfl) 1007 rfl) 1006 rfl) 101 rfl) 100 rfl) 990 rfl) 901 rfl))
      ·have hk82_13 := hc82; try simp only [bL] at hc82
       refine sr fun khK46 hK46 => ?_
       refine la F rfl (x_eql (F.t 52 rfl) rfl) fun a F => ?_
       refine la F rfl (x_assign (F.t 115 rfl)) fun a F => ?_
       refine wn (hK46 _ _ ?_)
       refine wp_cond_split (F.t 114 rfl) (fun hc114 => ?_) (fun hc114 => ?_)
       ·have hk114_14 := hc114; try simp only [bL] at hc114
        refine r_start [(6, .blk b6 (.cells #[.int .i64 (gbact xs (k : Int)).kind, .int .i64 (gbact xs (k : Int)).i, .int .i64 (gbact xs (k : Int)).m.kind, .int .i64 (gbact xs (k : Int)).m.src, .int .i64 (gbact xs (k : Int)).m.dst, .int .i64 (gbact xs (k : Int)).m.tx, .slice fA1_0 (gbact xs (k : Int)).m.nodes.length fc1_0, .slice fA1_1 (gbact xs (k : Int)).m.changes.length fc1_1] 36 (0, 0)))] (by kernel_rfl) H fun H => ?_
        have hS : SL [(6, .blk b6 (.cells #[.int .i64 (gbact xs (k : Int)).kind, .int .i64 (gbact xs (k : Int)).i, .int .i64 (gbact xs (k : Int)).m.kind, .int .i64 (gbact xs (k : Int)).m.src, .int .i64 (gbact xs (k : Int)).m.dst, .int .i64 (gbact xs (k : Int)).m.tx, .slice fA1_0 (gbact xs (k : Int)).m.nodes.length fc1_0, .slice fA1_1 (gbact xs (k : Int)).m.changes.length fc1_1] 36 (0, 0)))] _ := SL.of H (sub_cons (sub_nil _) 6 rfl)
        refine rT 0 F rfl (by kernel_rfl) pq rfl hS (fun w hS => x_move (F.t 3 rfl)) rfl fun a F => ?_
        refine rT 1 F rfl (by kernel_rfl) pq rfl hS (fun w hS => x_faddr Tryz.underlying36 rfl ty3 (by decide) (F.t 6 rfl) rfl) rfl fun a F => ?_
        refine rT 2 F rfl (by kernel_rfl) pq rfl hS (fun w hS => x_load1 ty3 (F.t 117 rfl) (blk_cell (SL.at_ hS 6 rfl) 1 rfl)) rfl fun a F => ?_
        refine rT 4 F rfl (by kernel_rfl) pq rfl hS (fun w hS => x_move (F.t 4 rfl)) rfl fun a F => ?_
        refine rT 5 F rfl (by kernel_rfl) pq rfl hS (fun w hS => x_faddr Tryz.underlying36 rfl ty3 (by decide) (F.t 6 rfl) rfl) rfl fun a F => ?_
        refine rT 6 F rfl (by kernel_rfl) pq rfl hS (fun w hS => x_load1 ty3 (F.t 121 rfl) (blk_cell (SL.at_ hS 6 rfl) 1 rfl)) rfl fun a F => ?_
        refine r_do 3 rfl (by kernel_rfl) rfl rfl ?_
        refine w_call F (x_enter Tryz.func11 (by kernel_rfl) rfl (by simp only [bM, F.t 116 rfl, F.t 118 rfl] <;> rfl)) (twice_calls _ (H.holds 990 _ rfl) hq0_1 (H.okX 100 rfl) hq0_2 (fun k h hx => H.sep 100 990 _ _ (by decide) rfl rfl k hx (.inr h)) ((gbact xs (k : Int)).i)) rfl rfl ?_
        rintro _ w ⟨X1, rfl, hX1, hg_⟩; refine ⟨_, rfl, ?_⟩; clear F; intro a F; have H := H.grew 100 rfl hg_ (fun k hk => hk.elim)
        refine aN (SL.of H (sub_cons (sub_nil _) 6 rfl)) fun hS => ?_
        refine r_do 7 rfl (by kernel_rfl) rfl rfl ?_
        refine w_call F (x_enter Tryz.func12 (by kernel_rfl) rfl (by simp only [bM, F.t 120 rfl, F.t 122 rfl] <;> rfl)) (rtwice_calls _ hq0_3 (H.okX 101 rfl) hq0_2 ((gbact xs (k : Int)).i)) rfl rfl ?_
        rintro _ w ⟨Y2, rfl, hY2, hg_⟩; refine ⟨_, rfl, ?_⟩; clear F; intro a F; have H := H.grew 101 rfl hg_ (fun k hk => hk.elim)
        refine aN (SL.of H (sub_cons (sub_nil _) 6 rfl)) fun hS => ?_
        refine rT 8 F rfl (by kernel_rfl) pq rfl hS (fun w hS => x_eql (F.t 119 rfl) (F.t 123 rfl)) rfl fun a F => ?_
        rw [decide_eq_true (rfl : twiceE s (gbact xs (k : Int)).i = twiceE s (gbact xs (k : Int)).i)] at F
        refine rT 9 F rfl (by kernel_rfl) pq rfl hS (fun w hS => x_assign (F.t 124 rfl)) rfl fun a F => ?_
        refine r_end (by kernel_rfl) ?_; clear hS
        exact hJ53 _ _ X1 (twiceS s ((gbact xs (k : Int)).i)) Y2 hX1 (twice_ok hq0_2 ((gbact xs (k : Int)).i)) hY2 (((((F.bare.add F 8 rfl).add F 5 rfl).add F 4 rfl).add F 3 rfl).add F 0 rfl) (H.sub _ (sub_cons (sub_cons (sub_cons (sub_cons (sub_cons (sub_cons (sub_cons (sub_nil _) 6 rfl) 1007 rfl) 1006 rfl) 101 rfl) 100 rfl) 990 rfl) 901 rfl))
       ·have hk114_15 := hc114; try simp only [bL] at hc114
        refine sr fun khK47 hK47 => ?_
        refine la F rfl (x_eql (F.t 52 rfl) rfl) fun a F => ?_
        refine la F rfl (x_assign (F.t 126 rfl)) fun a F => ?_
        refine wn (hK47 _ _ ?_)
        refine wp_cond_split (F.t 125 rfl) (fun hc125 => ?_) (fun hc125 => ?_)
        ·have hk125_16 := hc125; try simp only [bL] at hc125
         refine r_start [(6, .blk b6 (.cells #[.int .i64 (gbact xs (k : Int)).kind, .int .i64 (gbact xs (k : Int)).i, .int .i64 (gbact xs (k : Int)).m.kind, .int .i64 (gbact xs (k : Int)).m.src, .int .i64 (gbact xs (k : Int)).m.dst, .int .i64 (gbact xs (k : Int)).m.tx, .slice fA1_0 (gbact xs (k : Int)).m.nodes.length fc1_0, .slice fA1_1 (gbact xs (k : Int)).m.changes.length fc1_1] 36 (0, 0)))] (by kernel_rfl) H fun H => ?_
         have hS : SL [(6, .blk b6 (.cells #[.int .i64 (gbact xs (k : Int)).kind, .int .i64 (gbact xs (k : Int)).i, .int .i64 (gbact xs (k : Int)).m.kind, .int .i64 (gbact xs (k : Int)).m.src, .int .i64 (gbact xs (k : Int)).m.dst, .int .i64 (gbact xs (k : Int)).m.tx, .slice fA1_0 (gbact xs (k : Int)).m.nodes.length fc1_0, .slice fA1_1 (gbact xs (k : Int)).m.changes.length fc1_1] 36 (0, 0)))] _ := SL.of H (sub_cons (sub_nil _) 6 rfl)
         refine rT 0 F rfl (by kernel_rfl) pq rfl hS (fun w hS => x_move (F.t 3 rfl)) rfl fun a F => ?_
         refine rT 1 F rfl (by kernel_rfl) pq rfl hS (fun w hS => x_faddr Tryz.underlying36 rfl ty3 (by decide) (F.t 6 rfl) rfl) rfl fun a F => ?_
         refine rT 2 F rfl (by kernel_rfl) pq rfl hS (fun w hS => x_load1 ty3 (F.t 128 rfl) (blk_cell (SL.at_ hS 6 rfl) 1 rfl)) rfl fun a F => ?_
         refine rT 4 F rfl (by kernel_rfl) pq rfl hS (fun w hS => x_move (F.t 4 rfl)) rfl fun a F => ?_
         refine rT 5 F rfl (by kernel_rfl) pq rfl hS (fun w hS => x_faddr Tryz.underlying36 rfl ty3 (by decide) (F.t 6 rfl) rfl) rfl fun a F => ?_
         refine rT 6 F rfl (by kernel_rfl) pq rfl hS (fun w hS => x_load1 ty3 (F.t 132 rfl) (blk_cell (SL.at_ hS 6 rfl) 1 rfl)) rfl fun a F => ?_
         refine r_do 3 rfl (by kernel_rfl) rfl rfl ?_
         refine w_call F (x_enter Tryz.func13 (by kernel_rfl) rfl (by simp only [bM, F.t 127 rfl, F.t 129 rfl] <;> rfl)) (lose_calls _ (H.holds 990 _ rfl) hq0_1 (H.okX 100 rfl) hq0_2 (fun k h hx => H.sep 100 990 _ _ (by decide) rfl rfl k hx (.inr h)) ((gbact xs (k : Int)).i)) rfl rfl ?_
         rintro _ w ⟨X1, rfl, hX1, hg_⟩; refine ⟨_, rfl, ?_⟩; clear F; intro a F; have H := H.grew 100 rfl hg_ (fun k hk => hk.elim)
         refine aN (SL.of H (sub_cons (sub_nil _) 6 rfl)) fun hS => ?_
         refine r_do 7 rfl (by kernel_rfl) rfl rfl ?_
         refine w_call F (x_enter Tryz.func14 (by kernel_rfl) rfl (by simp only [bM, F.t 131 rfl, F.t 133 rfl] <;> rfl)) (rlose_calls _ hq0_3 (H.okX 101 rfl) hq0_2 ((gbact xs (k : Int)).i)) rfl rfl ?_
         rintro _ w ⟨Y2, rfl, hY2, hg_⟩; refine ⟨_, rfl, ?_⟩; clear F; intro a F; have H := H.grew 101 rfl hg_ (fun k hk => hk.elim)
         refine aN (SL.of H (sub_cons (sub_nil _) 6 rfl)) fun hS => ?_
         refine rT 8 F rfl (by kernel_rfl) pq rfl hS (fun w hS => x_eql (F.t 130 rfl) (F.t 134 rfl)) rfl fun a F => ?_
         rw [decide_eq_true (rfl : lookE s (gbact xs (k : Int)).i = lookE s (gbact xs (k : Int)).i)] at F
         refine rT 9 F rfl (by kernel_rfl) pq rfl hS (fun w hS => x_assign (F.t 135 rfl)) rfl fun a F => ?_
         refine r_end (by kernel_rfl) ?_; clear hS
         exact hJ53 _ _ X1 (loseS s ((gbact xs (k : Int)).i)) Y2 hX1 (lose_ok hq0_2 ((gbact xs (k : Int)).i)) hY2 (((((F.bare.add F 8 rfl).add F 5 rfl).add F 4 rfl).add F 3 rfl).add F 0 rfl) (H.sub _ (sub_cons (sub_cons (sub_cons (sub_cons (sub_cons (sub_cons (sub_cons (sub_nil _) 6 rfl) 1007 rfl) 1006 rfl) 101 rfl) 100 rfl) 990 rfl) 901 rfl))
        ·have hk125_17 := hc125; try simp only [bL] at hc125
         refine sr fun khK48 hK48 => ?_
         refine la F rfl (x_eql (F.t 52 rfl) rfl) fun a F => ?_
         refine la F rfl (x_assign (F.t 137 rfl)) fun a F => ?_
         refine wn (hK48 _ _ ?_)
         refine wp_cond_split (F.t 136 rfl) (fun hc136 => ?_) (fun hc136 => ?_)
         ·have hk136_18 := hc136; try simp only [bL] at hc136
          refine r_start [(6, .blk b6 (.cells #[.int .i64 (gbact xs (k : Int)).kind, .int .i64 (gbact xs (k : Int)).i, .int .i64 (gbact xs (k : Int)).m.kind, .int .i64 (gbact xs (k : Int)).m.src, .int .i64 (gbact xs (k : Int)).m.dst, .int .i64 (gbact xs (k : Int)).m.tx, .slice fA1_0 (gbact xs (k : Int)).m.nodes.length fc1_0, .slice fA1_1 (gbact xs (k : Int)).m.changes.length fc1_1] 36 (0, 0)))] (by kernel_rfl) H fun H => ?_
          have hS : SL [(6, .blk b6 (.cells #[.int .i64 (gbact xs (k : Int)).kind, .int .i64 (gbact xs (k : Int)).i, .int .i64 (gbact xs (k : Int)).m.kind, .int .i64 (gbact xs (k : Int)).m.src, .int .i64 (gbact xs (k : Int)).m.dst, .int .i64 (gbact xs (k : Int)).m.tx, .slice fA1_0 (gbact xs (k : Int)).m.nodes.length fc1_0, .slice fA1_1 (gbact xs (k : Int)).m.changes.length fc1_1] 36 (0, 0)))] _ := SL.of H (sub_cons (sub_nil _) 6 rfl)
          refine rT 0 F rfl (by kernel_rfl) pq rfl hS (fun w hS => x_move (F.t 3 rfl)) rfl fun a F => ?_
          refine rT 1 F rfl (by kernel_rfl) pq rfl hS (fun w hS => x_faddr Tryz.underlying36 rfl ty3 (by decide) (F.t 6 rfl) rfl) rfl fun a F => ?_
          refine rT 2 F rfl (by kernel_rfl) pq rfl hS (fun w hS => x_load1 ty3 (F.t 139 rfl) (blk_cell (SL.at_ hS 6 rfl) 1 rfl)) rfl fun a F => ?_
          refine rT 4 F rfl (by kernel_rfl) pq rfl hS (fun w hS => x_move (F.t 4 rfl)) rfl fun a F => ?_
          refine rT 5 F rfl (by kernel_rfl) pq rfl hS (fun w hS => x_faddr Tryz.underlying36 rfl ty3 (by decide) (F.t 6 rfl) rfl) rfl fun a F => ?_
          refine rT 6 F rfl (by kernel_rfl) pq rfl hS (fun w hS => x_load1 ty3 (F.t 143 rfl) (blk_cell (SL.at_ hS 6 rfl) 1 rfl)) rfl fun a F => ?_
          refine r_do 3 rfl (by kernel_rfl) rfl rfl ?_
          refine w_call F (x_enter Tryz.func15 (by kernel_rfl) rfl (by simp only [bM, F.t 138 rfl, F.t 140 rfl] <;> rfl)) (restart_calls _  hq0_1 (H.okX 100 rfl) hq0_2  ((gbact xs (k : Int)).i)) rfl rfl ?_
          rintro _ w ⟨X1, rfl, hX1, hg_⟩; refine ⟨_, rfl, ?_⟩; clear F; intro a F; have H := H.grew 100 rfl hg_ (fun k hk => hk.elim)
          refine aN (SL.of H (sub_cons (sub_nil _) 6 rfl)) fun hS => ?_
          refine r_do 7 rfl (by kernel_rfl) rfl rfl ?_
          refine w_call F (x_enter Tryz.func16 (by kernel_rfl) rfl (by simp only [bM, F.t 142 rfl, F.t 144 rfl] <;> rfl)) (rrestart_calls _ hq0_3 (H.okX 101 rfl) hq0_2 ((gbact xs (k : Int)).i)) rfl rfl ?_
          rintro _ w ⟨Y2, rfl, hY2, hg_⟩; refine ⟨_, rfl, ?_⟩; clear F; intro a F; have H := H.grew 101 rfl hg_ (fun k hk => hk.elim)
          refine aN (SL.of H (sub_cons (sub_nil _) 6 rfl)) fun hS => ?_
          refine rT 8 F rfl (by kernel_rfl) pq rfl hS (fun w hS => x_eql (F.t 141 rfl) (F.t 145 rfl)) rfl fun a F => ?_
          rw [decide_eq_true (rfl : rstE (gbact xs (k : Int)).i = rstE (gbact xs (k : Int)).i)] at F
          refine rT 9 F rfl (by kernel_rfl) pq rfl hS (fun w hS => x_assign (F.t 146 rfl)) rfl fun a F => ?_
          refine r_end (by kernel_rfl) ?_; clear hS
          exact hJ53 _ _ X1 (rstS s ((gbact xs (k : Int)).i)) Y2 hX1 (rest_ok hq0_2 ((gbact xs (k : Int)).i)) hY2 (((((F.bare.add F 8 rfl).add F 5 rfl).add F 4 rfl).add F 3 rfl).add F 0 rfl) (H.sub _ (sub_cons (sub_cons (sub_cons (sub_cons (sub_cons (sub_cons (sub_cons (sub_nil _) 6 rfl) 1007 rfl) 1006 rfl) 101 rfl) 100 rfl) 990 rfl) 901 rfl))
         ·have hk136_19 := hc136; try simp only [bL] at hc136
          refine wp_skip ?_
          exact hJ53 _ _ X s Y hq0_1 hq0_2 hq0_3 (((((F.bare.add F 8 rfl).add F 5 rfl).add F 4 rfl).add F 3 rfl).add F 0 rfl) (H.sub _ (sub_cons (sub_cons (sub_cons (sub_cons (sub_cons (sub_cons (sub_cons (sub_nil _) 6 rfl) 1007 rfl) 1006 rfl) 101 rfl) 100 rfl) 990 rfl) 901 rfl))
   ·have hk39_20 := hc39; try simp only [bL] at hc39
    refine wp_exit ?_
    refine hK6 _ _ ?_
    refine sr fun khK49 hK49 => ?_
    refine la F rfl (x_move (F.t 3 rfl)) fun a F => ?_
    refine la F rfl (x_move (F.t 3 rfl)) fun a F => ?_
    refine lp rfl ?_
    refine w_call F (x_enter Tryz.func17 (by kernel_rfl) rfl (by simp only [bM, F.t 215 rfl] <;> rfl)) (blen_calls _ hq0_1 (H.okX 100 rfl) hq0_2) rfl rfl ?_
    rintro _ w ⟨rfl, hm_⟩; refine ⟨_, rfl, ?_⟩; clear F; intro a F; have H := H.same hm_
    refine lp rfl ?_
    refine w_call F (x_enter Tryz.func19 (by kernel_rfl) rfl (by simp only [bM, F.t 214 rfl, F.t 216 rfl] <;> rfl)) (look_calls _ (H.holds 990 _ rfl) hq0_1 (H.okX 100 rfl) hq0_2 ((s.ways.length : Int))) rfl rfl ?_
    rintro _ w ⟨An74, cn74, Ac74, cc74, okm74, rfl, hm_, ⟨h1_, h2_⟩, hf_⟩; refine ⟨_, rfl, ?_⟩; clear F; intro a F; have h3_ := (H.same hm_).rdNew 74 (fun i A' hA k hk => H.inb i A' hA k (.inl hk)) h1_ hf_; have H := (h3_.1.rdNew 75 h3_.2 h2_ hf_).1
    refine la F rfl (x_move (F.t 217 rfl)) fun a F => ?_
    refine la F rfl (x_extract (F.t 213 rfl) rfl) fun a F => ?_
    refine la F rfl (x_extract (F.t 213 rfl) rfl) fun a F => ?_
    rw [(look_no (isW_big (s := s) (i := (s.ways.length : Int)) (by omega))).2.1] at F
    refine lp rfl ?_
    refine w_alloc 23 F H rfl ty34 ?_
    clear F H; intro a w b23 F H
    refine lp rfl ?_
    refine w_storeA 23 H ty34 rfl (F.t 23 rfl) (F.t 218 rfl) rfl (by simp [Value.cells, Value.oneCell']) rfl ?_
    clear H; intro w H
    refine la F rfl (x_assign (F.t 219 rfl)) fun a F => ?_
    refine wn (hK49 _ _ ?_)
    refine sr fun khK50 hK50 => ?_
    refine la F rfl (x_move (F.t 3 rfl)) fun a F => ?_
    refine lp rfl ?_
    refine w_call F (x_enter Tryz.func19 (by kernel_rfl) rfl (by simp only [bM, F.t 221 rfl] <;> rfl)) (look_calls _ (H.holds 990 _ rfl) hq0_1 (H.okX 100 rfl) hq0_2 (-1)) rfl rfl ?_
    rintro _ w ⟨An74, cn74, Ac74, cc74, okm74, rfl, hm_, ⟨h1_, h2_⟩, hf_⟩; refine ⟨_, rfl, ?_⟩; clear F; intro a F; have h3_ := (H.same hm_).rdNew 74 (fun i A' hA k hk => H.inb i A' hA k (.inl hk)) h1_ hf_; have H := (h3_.1.rdNew 75 h3_.2 h2_ hf_).1
    refine la F rfl (x_move (F.t 222 rfl)) fun a F => ?_
    refine la F rfl (x_extract (F.t 220 rfl) rfl) fun a F => ?_
    refine la F rfl (x_extract (F.t 220 rfl) rfl) fun a F => ?_
    rw [(look_no (isW_neg (s := s) (i := -1) (by omega))).2.1] at F
    refine lp rfl ?_
    refine w_alloc 25 F H rfl ty34 ?_
    clear F H; intro a w b25 F H
    refine lp rfl ?_
    refine w_storeA 25 H ty34 rfl (F.t 25 rfl) (F.t 223 rfl) rfl (by simp [Value.cells, Value.oneCell']) rfl ?_
    clear H; intro w H
    refine la F rfl (x_assign (F.t 224 rfl)) fun a F => ?_
    refine wn (hK50 _ _ ?_)
    refine sr fun khK51 hK51 => ?_
    refine lp rfl ?_
    refine w_call F (x_enter Tryz.func21 (by kernel_rfl) rfl (by simp only [bM] <;> rfl)) (balive_calls _ (H.holds 990 _ rfl)) rfl rfl ?_
    rintro _ w ⟨rfl, hm_⟩; refine ⟨_, rfl, ?_⟩; clear F; intro a F; have H := H.same hm_
    refine la F rfl (x_move (F.t 225 rfl)) fun a F => ?_
    refine lg F rfl (x_move (F.t 24 rfl)) fun a F => ?_
    refine lg F rfl (x_eql (F.t 227 rfl) rfl) fun a F => ?_
    refine la F rfl (x_pickT (F.t 226 rfl) rfl (F.t 228 rfl)) fun a F => ?_
    refine la F rfl (x_move (F.t 229 rfl)) fun a F => ?_
    refine lg F rfl (x_move (F.t 26 rfl)) fun a F => ?_
    refine lg F rfl (x_eql (F.t 231 rfl) rfl) fun a F => ?_
    refine la F rfl (x_pickT (F.t 230 rfl) rfl (F.t 232 rfl)) fun a F => ?_
    refine la F rfl (x_move (F.t 233 rfl)) fun a F => ?_
    refine lg F rfl (x_move (F.t 3 rfl)) fun a F => ?_
    refine lpo ((wo F rfl).trans rfl) ?_
    refine w_call F (x_enter Tryz.func20 (by kernel_rfl) rfl (by simp only [bM, F.t 235 rfl] <;> rfl)) (epoch_calls _ hq0_1 (H.okX 100 rfl) hq0_2 (-1)) rfl rfl ?_
    rintro _ w ⟨rfl, hm_⟩; refine ⟨_, rfl, ?_⟩; clear F; intro a F; have H := H.same hm_
    rw [(rest_no (s := s) (n := -1) (in8_neg (by omega))).2.2] at F
    refine lg F rfl (x_eql (F.t 236 rfl) rfl) fun a F => ?_
    refine la F rfl (x_pickT (F.t 234 rfl) rfl (F.t 237 rfl)) fun a F => ?_
    refine la F rfl (x_move (F.t 238 rfl)) fun a F => ?_
    refine lg F rfl (x_move (F.t 3 rfl)) fun a F => ?_
    refine lpo ((wo F rfl).trans rfl) ?_
    refine w_call F (x_enter Tryz.func20 (by kernel_rfl) rfl (by simp only [bM, F.t 240 rfl] <;> rfl)) (epoch_calls _ hq0_1 (H.okX 100 rfl) hq0_2 8) rfl rfl ?_
    rintro _ w ⟨rfl, hm_⟩; refine ⟨_, rfl, ?_⟩; clear F; intro a F; have H := H.same hm_
    rw [(rest_no (s := s) (n := 8) (in8_big (by omega))).2.2] at F
    refine lg F rfl (x_eql (F.t 241 rfl) rfl) fun a F => ?_
    refine la F rfl (x_pickT (F.t 239 rfl) rfl (F.t 242 rfl)) fun a F => ?_
    refine la F rfl (x_assign (F.t 243 rfl)) fun a F => ?_
    refine wn (hK51 _ _ ?_)
    refine wp_ret ?_
    try simp only [Exit.then, Exit.inBlock]
    exact fin_ret F (res1 (v := .bool true) F rfl rfl) ⟨rfl, H.mods⟩
  ·have hc36 := hb36; try simp only [bL] at hc36
   refine los F hb36 rfl fun a F => ?_
   refine los F hb36 rfl fun a F => ?_
   refine la F rfl (x_pickF (F.t 36 rfl) hb36 rfl) fun a F => ?_
   refine wn (hK9 _ _ ?_)
   refine wp_cond_false (F.t 39 rfl) ?_
   refine wp_exit ?_
   refine hK6 _ _ ?_
   refine sr fun khK52 hK52 => ?_
   refine la F rfl (x_move (F.t 3 rfl)) fun a F => ?_
   refine la F rfl (x_move (F.t 3 rfl)) fun a F => ?_
   refine lp rfl ?_
   refine w_call F (x_enter Tryz.func17 (by kernel_rfl) rfl (by simp only [bM, F.t 215 rfl] <;> rfl)) (blen_calls _ hq0_1 (H.okX 100 rfl) hq0_2) rfl rfl ?_
   rintro _ w ⟨rfl, hm_⟩; refine ⟨_, rfl, ?_⟩; clear F; intro a F; have H := H.same hm_
   refine lp rfl ?_
   refine w_call F (x_enter Tryz.func19 (by kernel_rfl) rfl (by simp only [bM, F.t 214 rfl, F.t 216 rfl] <;> rfl)) (look_calls _ (H.holds 990 _ rfl) hq0_1 (H.okX 100 rfl) hq0_2 ((s.ways.length : Int))) rfl rfl ?_
   rintro _ w ⟨An74, cn74, Ac74, cc74, okm74, rfl, hm_, ⟨h1_, h2_⟩, hf_⟩; refine ⟨_, rfl, ?_⟩; clear F; intro a F; have h3_ := (H.same hm_).rdNew 74 (fun i A' hA k hk => H.inb i A' hA k (.inl hk)) h1_ hf_; have H := (h3_.1.rdNew 75 h3_.2 h2_ hf_).1
   refine la F rfl (x_move (F.t 217 rfl)) fun a F => ?_
   refine la F rfl (x_extract (F.t 213 rfl) rfl) fun a F => ?_
   refine la F rfl (x_extract (F.t 213 rfl) rfl) fun a F => ?_
   rw [(look_no (isW_big (s := s) (i := (s.ways.length : Int)) (by omega))).2.1] at F
   refine lp rfl ?_
   refine w_alloc 23 F H rfl ty34 ?_
   clear F H; intro a w b23 F H
   refine lp rfl ?_
   refine w_storeA 23 H ty34 rfl (F.t 23 rfl) (F.t 218 rfl) rfl (by simp [Value.cells, Value.oneCell']) rfl ?_
   clear H; intro w H
   refine la F rfl (x_assign (F.t 219 rfl)) fun a F => ?_
   refine wn (hK52 _ _ ?_)
   refine sr fun khK53 hK53 => ?_
   refine la F rfl (x_move (F.t 3 rfl)) fun a F => ?_
   refine lp rfl ?_
   refine w_call F (x_enter Tryz.func19 (by kernel_rfl) rfl (by simp only [bM, F.t 221 rfl] <;> rfl)) (look_calls _ (H.holds 990 _ rfl) hq0_1 (H.okX 100 rfl) hq0_2 (-1)) rfl rfl ?_
   rintro _ w ⟨An74, cn74, Ac74, cc74, okm74, rfl, hm_, ⟨h1_, h2_⟩, hf_⟩; refine ⟨_, rfl, ?_⟩; clear F; intro a F; have h3_ := (H.same hm_).rdNew 74 (fun i A' hA k hk => H.inb i A' hA k (.inl hk)) h1_ hf_; have H := (h3_.1.rdNew 75 h3_.2 h2_ hf_).1
   refine la F rfl (x_move (F.t 222 rfl)) fun a F => ?_
   refine la F rfl (x_extract (F.t 220 rfl) rfl) fun a F => ?_
   refine la F rfl (x_extract (F.t 220 rfl) rfl) fun a F => ?_
   rw [(look_no (isW_neg (s := s) (i := -1) (by omega))).2.1] at F
   refine lp rfl ?_
   refine w_alloc 25 F H rfl ty34 ?_
   clear F H; intro a w b25 F H
   refine lp rfl ?_
   refine w_storeA 25 H ty34 rfl (F.t 25 rfl) (F.t 223 rfl) rfl (by simp [Value.cells, Value.oneCell']) rfl ?_
   clear H; intro w H
   refine la F rfl (x_assign (F.t 224 rfl)) fun a F => ?_
   refine wn (hK53 _ _ ?_)
   refine sr fun khK54 hK54 => ?_
   refine lp rfl ?_
   refine w_call F (x_enter Tryz.func21 (by kernel_rfl) rfl (by simp only [bM] <;> rfl)) (balive_calls _ (H.holds 990 _ rfl)) rfl rfl ?_
   rintro _ w ⟨rfl, hm_⟩; refine ⟨_, rfl, ?_⟩; clear F; intro a F; have H := H.same hm_
   refine la F rfl (x_move (F.t 225 rfl)) fun a F => ?_
   refine lg F rfl (x_move (F.t 24 rfl)) fun a F => ?_
   refine lg F rfl (x_eql (F.t 227 rfl) rfl) fun a F => ?_
   refine la F rfl (x_pickT (F.t 226 rfl) rfl (F.t 228 rfl)) fun a F => ?_
   refine la F rfl (x_move (F.t 229 rfl)) fun a F => ?_
   refine lg F rfl (x_move (F.t 26 rfl)) fun a F => ?_
   refine lg F rfl (x_eql (F.t 231 rfl) rfl) fun a F => ?_
   refine la F rfl (x_pickT (F.t 230 rfl) rfl (F.t 232 rfl)) fun a F => ?_
   refine la F rfl (x_move (F.t 233 rfl)) fun a F => ?_
   refine lg F rfl (x_move (F.t 3 rfl)) fun a F => ?_
   refine lpo ((wo F rfl).trans rfl) ?_
   refine w_call F (x_enter Tryz.func20 (by kernel_rfl) rfl (by simp only [bM, F.t 235 rfl] <;> rfl)) (epoch_calls _ hq0_1 (H.okX 100 rfl) hq0_2 (-1)) rfl rfl ?_
   rintro _ w ⟨rfl, hm_⟩; refine ⟨_, rfl, ?_⟩; clear F; intro a F; have H := H.same hm_
   rw [(rest_no (s := s) (n := -1) (in8_neg (by omega))).2.2] at F
   refine lg F rfl (x_eql (F.t 236 rfl) rfl) fun a F => ?_
   refine la F rfl (x_pickT (F.t 234 rfl) rfl (F.t 237 rfl)) fun a F => ?_
   refine la F rfl (x_move (F.t 238 rfl)) fun a F => ?_
   refine lg F rfl (x_move (F.t 3 rfl)) fun a F => ?_
   refine lpo ((wo F rfl).trans rfl) ?_
   refine w_call F (x_enter Tryz.func20 (by kernel_rfl) rfl (by simp only [bM, F.t 240 rfl] <;> rfl)) (epoch_calls _ hq0_1 (H.okX 100 rfl) hq0_2 8) rfl rfl ?_
   rintro _ w ⟨rfl, hm_⟩; refine ⟨_, rfl, ?_⟩; clear F; intro a F; have H := H.same hm_
   rw [(rest_no (s := s) (n := 8) (in8_big (by omega))).2.2] at F
   refine lg F rfl (x_eql (F.t 241 rfl) rfl) fun a F => ?_
   refine la F rfl (x_pickT (F.t 239 rfl) rfl (F.t 242 rfl)) fun a F => ?_
   refine la F rfl (x_assign (F.t 243 rfl)) fun a F => ?_
   refine wn (hK54 _ _ ?_)
   refine wp_ret ?_
   try simp only [Exit.then, Exit.inBlock]
   exact fin_ret F (res1 (v := .bool true) F rfl rfl) ⟨rfl, H.mods⟩
end Go.Proofs.YtfocpadeflpabaaGreatDoor.Act
