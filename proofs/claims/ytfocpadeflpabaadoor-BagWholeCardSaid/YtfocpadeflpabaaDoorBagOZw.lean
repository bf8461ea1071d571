/- The laws of the bag, second part, walked. -/
import Derived.Test.YtfocpadeflpabaaDoorBagLZw
import Derived.Test.YtfocpadeflpabaaDoorBagEZw
set_option linter.unusedVariables false
set_option linter.unusedSimpArgs false
namespace Go.Proofs.YtfocpadeflpabaaDoor.Act
open Go.RowKit Go.Proofs.YtfocpadeflpabaaDoor.Sx Go.Proofs.YtfocpadeflpabaaDoor.Cod Go.Proofs.YtfocpadeflpabaaDoor.Num
theorem ty43 : TyI Tryd.prog 43 (.agg #[.int .i64 0, .int .i64 0, .int .i64 0, .int .i64 0, .int .i64 0, .int .i64 0, .slice none 0 0, .slice none 0 0]) 8 96 true := ⟨by kernel_rfl, _, Tryd.underlying43, rfl⟩
set_option maxRecDepth 100000 in
set_option maxHeartbeats 1000000 in
theorem bWhole_calls (w0 : World) (hL : LibAt true w0) {ok : Nat → Prop} {A : Option Addr} {xs : List BActD} {c : Nat} (hr : Rd BactE w0 ok A xs c) (hxb : ∀ x ∈ xs, MessageB x.m) : Calls Tryd.prog 5 #[.slice A xs.length c] w0 fun e w' => e = .returned (.bool true) ∧ Mods (fun _ => False) w0 w' := by
 refine calls_of_wp Tryd.func5 rfl ?_
 have hF := Fr.enter #[.slice A xs.length c] 134 (slotsOf [.slice A xs.length c] 0) (Nat.le_of_ble_eq_true rfl) (fun i v h => by have h2 := (get_slotsOf _ 0 i v h).2; simpa only [List.getElem?_toArray, Nat.sub_zero] using h2)
 have hH := Hp.nil (fun _ => False) w0
 rw [Tryd.ntmps5]
 revert hF; generalize (⟨(#[.slice A xs.length c] : Array Value) ++ Array.replicate (134 - (#[.slice A xs.length c] : Array Value).size) undef, []⟩ : Act) = a; intro hF
 have hH := hH.arg 901 hr.all (fun _ h => ⟨h, fun h => h⟩)
 have hle901 := hr.le; unfold maxLen at hle901
 have hH := hH.libN 990 hL
 refine wp_seq_k fun khK1 hK1 => ?_
 refine wp_region_lit ?_
 refine l_at hF rfl rfl rfl (x_assign rfl) ?_; clear hF; intro a hF
 refine wpList_nil ?_
 refine hK1 _ _ ?_
 refine wp_seq_k fun khK2 hK2 => ?_
 refine wp_region_lit ?_
 refine wpList_plain rfl fun K hK => ?_
 refine w_call hF (x_enter Tryd.func7 (by kernel_rfl) rfl (by simp only [List.map_toArray, List.map_cons, List.map_nil] <;> rfl)) (bnew_calls _) rfl rfl ?_
 rintro _ w ⟨bb, X0, rfl, hX0, hxo_, hm_, hxn_, hxr_⟩; refine ⟨_, rfl, ?_⟩; clear hF; intro a hF; have hH := hH.newX 100 hm_ hxo_ hxn_ (fun k hk => (hxr_ k hk).elim)
 refine hK _ _ ?_; clear hK K
 refine l_at hF rfl rfl rfl (x_assign (hF.tmp 16 rfl)) ?_; clear hF; intro a hF
 refine wpList_nil ?_
 refine hK2 _ _ ?_
 refine wp_seq_k fun khK3 hK3 => ?_
 refine wp_seq_k fun khK4 hK4 => ?_
 refine wp_region_lit ?_
 refine l_at hF rfl rfl rfl (x_move (hF.tmp 3 rfl)) ?_; clear hF; intro a hF
 refine l_at hF rfl rfl rfl (x_ptrnil Tryd.underlying23 (hF.tmp 17 rfl) rfl) ?_; clear hF; intro a hF
 refine wpList_nil ?_
 refine hK4 _ _ ?_
 refine wp_cond_false (hF.tmp 18 rfl) ?_
 refine wp_skip ?_
 refine hK3 _ _ ?_
 refine wp_seq_k fun khK5 hK5 => ?_
 refine wp_region_lit ?_
 refine l_at hF rfl rfl rfl (x_assign rfl) ?_; clear hF; intro a hF
 refine wpList_nil ?_
 refine hK5 _ _ ?_
 refine wp_seq_k fun khK6 hK6 => ?_
 refine wp_region_lit ?_
 refine l_at hF rfl rfl rfl (x_assign rfl) ?_; clear hF; intro a hF
 refine wpList_nil ?_
 refine hK6 _ _ ?_
 refine wp_seq_k fun khK7 hK7 => ?_
 refine wp_region_lit ?_
 refine l_at hF rfl rfl rfl (x_assign rfl) ?_; clear hF; intro a hF
 refine wpList_nil ?_
 refine hK7 _ _ ?_
 refine wp_seq_k fun khK8 hK8 => ?_
 refine wp_seq_k fun khK9 hK9 => ?_
 refine wp_region_lit ?_
 have hH := hH.row0 4 MsgE 30
 refine l_at hF rfl rfl rfl (x_assign rfl) ?_; clear hF; intro a hF
 refine wpList_nil ?_
 refine hK9 _ _ ?_
 refine wp_block ?_
 refine wp_loop_ghost (fun n_ a w => ∃ k : Nat, ∃ X : Asn, ∃ v4 : Value, ∃ okv : Nat → Prop, ∃ ss : List MessageD, ∃ s : BagS, ∃ count : Int, ∃ taken : Int, n_ = 100 - k ∧ (k ≤ 100) ∧ (BagA 51 58 bb s X) ∧ (WholeI k ss s count taken) ∧ (k ≤ xs.length) ∧ Fr 134 a [(0, .slice A xs.length c), (3, .pointer (some ⟨bb, 0, none⟩)), (4, v4), (5, .int .i64 count), (6, .int .i64 taken), (7, .int .i64 (k : Int))] ∧ Hp (fun _ => False) w0 w [(901, .rd_ BactE A xs c (fun k => k < w0.heap.size)), (990, .lib true), (100, X), (4, .row MsgE 30 v4 ss okv)]) (100) ?_ ?_
 ·exact ⟨0, X0, .slice none 0 0, (fun _ => False), [], bag0, 0, 0, rfl, by omega, hX0, WholeI.start, by omega, ((((((hF.bare.add hF 7 rfl).add hF 6 rfl).add hF 5 rfl).add hF 4 rfl).add hF 3 rfl).add hF 0 rfl), hH.sub _ (sub_cons (sub_cons (sub_cons (sub_cons (sub_nil _) 4 rfl) 100 rfl) 990 rfl) 901 rfl)⟩
 ·rintro _ a w ⟨k, X, v4, okv, ss, s, count, taken, rfl, hq0_0, hq0_1, hq0_2, hq0_3, hF, hH⟩
  refine wp_seq_k fun khK10 hK10 => ?_
  refine wp_seq_k fun khK11 hK11 => ?_
  refine wp_region_lit ?_
  refine l_at hF rfl rfl rfl (x_move (hF.tmp 7 rfl)) ?_; clear hF; intro a hF
  refine l_at hF rfl rfl rfl (x_move (hF.tmp 0 rfl)) ?_; clear hF; intro a hF
  refine l_at hF rfl rfl rfl (x_len_slice Tryd.underlying41 (hF.tmp 20 rfl)) ?_; clear hF; intro a hF
  refine l_at hF rfl rfl rfl (x_lss (hF.tmp 19 rfl) (hF.tmp 21 rfl)) ?_; clear hF; intro a hF
  refine l_at hF rfl rfl rfl (x_move (hF.tmp 22 rfl)) ?_; clear hF; intro a hF
  refine split_bool hF 23 rfl (fun hb23 => ?_) (fun hb23 => ?_)
  ·have hc23 := hb23; try simp only [Bool.or_eq_true, Bool.and_eq_true, Bool.or_eq_false_iff, Bool.and_eq_false_iff, Bool.not_eq_true', Bool.not_eq_false', decide_eq_true_eq, decide_eq_false_iff_not, Bool.not_true, Bool.not_false] at hc23
   refine l_atg hF ((wanted_of hF rfl rfl rfl rfl).trans (by rw [hb23]; rfl)) rfl rfl (x_move (hF.tmp 7 rfl)) ?_; clear hF; intro a hF
   refine l_atg hF ((wanted_of hF rfl rfl rfl rfl).trans (by rw [hb23]; rfl)) rfl rfl (x_lss (hF.tmp 24 rfl) rfl) ?_; clear hF; intro a hF
   refine l_at hF rfl rfl rfl (x_pickT (hF.tmp 23 rfl) hb23 (hF.tmp 25 rfl)) ?_; clear hF; intro a hF
   refine wpList_nil ?_
   refine hK11 _ _ ?_
   refine wp_cond_split (hF.tmp 26 rfl) (fun hc26 => ?_) (fun hc26 => ?_)
   ·have hk26_1 := hc26; try simp only [Bool.or_eq_true, Bool.and_eq_true, Bool.or_eq_false_iff, Bool.and_eq_false_iff, Bool.not_eq_true', Bool.not_eq_false', decide_eq_true_eq, decide_eq_false_iff_not, Bool.not_true, Bool.not_false] at hc26
    refine wp_skip ?_
    refine hK10 _ _ ?_
    refine wp_seq_k fun khK12 hK12 => ?_
    refine wp_block ?_
    refine wp_seq_k fun khK13 hK13 => ?_
    refine wp_region_lit ?_
    refine l_at hF rfl rfl rfl (x_move (hF.tmp 0 rfl)) ?_; clear hF; intro a hF
    refine l_at hF rfl rfl rfl (x_move (hF.tmp 7 rfl)) ?_; clear hF; intro a hF
    refine l_at hF rfl rfl rfl (x_iaddr_A Tryd.underlying41 ty43 ((hH.rd 901 rfl)) (hF.tmp 29 rfl) (hF.tmp 30 rfl) (by omega) (by omega) _) ?_; clear hF; intro a hF
    obtain ⟨fA1_0, fc1_0, fA1_1, fc1_1, hfr1_0, hfr1_1, hf1_0, hf1_1, hf1_2, hf1_3, hf1_4, hf1_5, hf1_6, hf1_7, hfw1⟩ := rd_bact ((hH.rd 901 rfl)) (gbact_some (xs := xs) (i := (k : Int)) (by omega) (by omega))
    have hH := hH.subrd 901 rfl 1006 hfr1_0 (fun _ h => h)
    have hH := hH.subrd 901 rfl 1007 hfr1_1 (fun _ h => h)
    have hH := hH.subcels 901 rfl 1499 hfw1 (Rd.inok ((hH.rd 901 rfl)) (by omega) _)
    have hH := hH.subcel 901 rfl 1500 hf1_0 (Rd.inok ((hH.rd 901 rfl)) (by omega) _)
    have hH := hH.subcel 901 rfl 1501 hf1_1 (Rd.inok ((hH.rd 901 rfl)) (by omega) _)
    have hH := hH.subcel 901 rfl 1502 hf1_2 (Rd.inok ((hH.rd 901 rfl)) (by omega) _)
    have hH := hH.subcel 901 rfl 1503 hf1_3 (Rd.inok ((hH.rd 901 rfl)) (by omega) _)
    have hH := hH.subcel 901 rfl 1504 hf1_4 (Rd.inok ((hH.rd 901 rfl)) (by omega) _)
    have hH := hH.subcel 901 rfl 1505 hf1_5 (Rd.inok ((hH.rd 901 rfl)) (by omega) _)
    have hH := hH.subcel 901 rfl 1506 hf1_6 (Rd.inok ((hH.rd 901 rfl)) (by omega) _)
    have hH := hH.subcel 901 rfl 1507 hf1_7 (Rd.inok ((hH.rd 901 rfl)) (by omega) _)
    have hbm := hxb _ (gbact_mem (xs := xs) (j := k) (by omega))
    refine l_at hF rfl rfl rfl (x_loadn ty43 (hF.tmp 31 rfl) rfl (hH.holds 1499 _ rfl)) ?_; clear hF; intro a hF
    refine wpList_plain rfl fun K hK => ?_
    refine w_alloc 8 hF hH rfl ty43 ?_
    clear hF hH; intro a w b8 hF hH
    refine hK _ _ ?_; clear hK K
    refine wpList_plain rfl fun K hK => ?_
    refine w_storeA 8 hH ty43 rfl (hF.tmp 8 rfl) (hF.tmp 32 rfl) rfl (by simp [Value.cells, Value.oneCell']) rfl ?_
    clear hH; intro w hH
    refine hK _ _ ?_; clear hK K
    refine wpList_nil ?_
    refine hK13 _ _ ?_
    refine wp_seq_k fun khK14 hK14 => ?_
    refine wp_region_lit ?_
    refine l_at hF rfl rfl rfl (x_faddr Tryd.underlying43 rfl ty30 (by decide) (hF.tmp 8 rfl) rfl) ?_; clear hF; intro a hF
    refine l_at hF rfl rfl rfl (x_loadn (cs := #[.int .i64 (gbact xs (k : Int)).m.kind, .int .i64 (gbact xs (k : Int)).m.src, .int .i64 (gbact xs (k : Int)).m.dst, .int .i64 (gbact xs (k : Int)).m.tx, .slice fA1_0 (gbact xs (k : Int)).m.nodes.length fc1_0, .slice fA1_1 (gbact xs (k : Int)).m.changes.length fc1_1]) ty30 (hF.tmp 33 rfl) rfl (blk_sub (hH.at 8 rfl) 2 6 rfl)) ?_; clear hF; intro a hF
    refine wpList_plain rfl fun K hK => ?_
    refine w_call hF (x_enter Tryd.func8 (by kernel_rfl) rfl (by simp only [List.map_toArray, List.map_cons, List.map_nil, hF.tmp 34 rfl] <;> rfl)) (fitsM_calls _ ((hH.rd 1006 rfl)) ((hH.rd 1007 rfl))) rfl rfl ?_
    rintro _ w ⟨bf_, rfl, hm_⟩; refine ⟨_, rfl, ?_⟩; clear hF; intro a hF; have hH := hH.same hm_
    refine hK _ _ ?_; clear hK K
    refine l_at hF rfl rfl rfl (x_assign (hF.tmp 35 rfl)) ?_; clear hF; intro a hF
    refine wpList_nil ?_
    refine hK14 _ _ ?_
    refine wp_seq_k fun khK15 hK15 => ?_
    refine wp_seq_k fun khK16 hK16 => ?_
    refine wp_region_lit ?_
    refine l_at hF rfl rfl rfl (x_move (hF.tmp 9 rfl)) ?_; clear hF; intro a hF
    refine l_at hF rfl rfl rfl (x_not (hF.tmp 36 rfl)) ?_; clear hF; intro a hF
    refine wpList_nil ?_
    refine hK16 _ _ ?_
    refine wp_cond_split (hF.tmp 37 rfl) (fun hc37 => ?_) (fun hc37 => ?_)
    ·have hk37_2 := hc37; try simp only [Bool.or_eq_true, Bool.and_eq_true, Bool.or_eq_false_iff, Bool.and_eq_false_iff, Bool.not_eq_true', Bool.not_eq_false', decide_eq_true_eq, decide_eq_false_iff_not, Bool.not_true, Bool.not_false] at hc37
     refine wp_exit ?_
     refine hK12 _ _ ?_
     refine wp_region_lit ?_
     refine l_at hF rfl rfl rfl (x_move (hF.tmp 7 rfl)) ?_; clear hF; intro a hF
     refine l_at hF rfl rfl rfl (x_add (hF.tmp 27 rfl) rfl (w64 (by omega) (by omega))) ?_; clear hF; intro a hF
     refine l_at hF rfl rfl rfl (x_assign (hF.tmp 28 rfl)) ?_; clear hF; intro a hF
     refine wpList_nil ?_
     exact ⟨_, by omega, ⟨k + 1, X, v4, okv, ss, s, count, taken, rfl, by omega, hq0_1, hq0_2.skip, by omega, ((((((hF.bare.add hF 7 rfl).add hF 6 rfl).add hF 5 rfl).add hF 4 rfl).add hF 3 rfl).add hF 0 rfl), hH.sub _ (sub_cons (sub_cons (sub_cons (sub_cons (sub_nil _) 4 rfl) 100 rfl) 990 rfl) 901 rfl)⟩⟩
    ·have hk37_3 := hc37; try simp only [Bool.or_eq_true, Bool.and_eq_true, Bool.or_eq_false_iff, Bool.and_eq_false_iff, Bool.not_eq_true', Bool.not_eq_false', decide_eq_true_eq, decide_eq_false_iff_not, Bool.not_true, Bool.not_false] at hc37
     refine wp_skip ?_
     refine hK15 _ _ ?_
     refine wp_seq_k fun khK17 hK17 => ?_
     refine wp_seq_k fun khK18 hK18 => ?_
     refine wp_region_lit ?_
     refine l_at hF rfl rfl rfl (x_faddr Tryd.underlying43 rfl ty3 (by decide) (hF.tmp 8 rfl) rfl) ?_; clear hF; intro a hF
     refine l_at hF rfl rfl rfl (x_load1 ty3 (hF.tmp 38 rfl) (blk_cell (hH.at 8 rfl) 0 rfl)) ?_; clear hF; intro a hF
     refine wpList_nil ?_
     refine hK18 _ _ ?_
     refine wp_block ?_
     refine wp_seq_k fun khK19 hK19 => ?_
     refine wp_region_lit ?_
     refine l_at hF rfl rfl rfl (x_eql (hF.tmp 39 rfl) rfl) ?_; clear hF; intro a hF
     refine l_at hF rfl rfl rfl (x_assign (hF.tmp 41 rfl)) ?_; clear hF; intro a hF
     refine wpList_nil ?_
     refine hK19 _ _ ?_
     refine wp_cond_split (hF.tmp 40 rfl) (fun hc40 => ?_) (fun hc40 => ?_)
     ·have hk40_4 := hc40; try simp only [Bool.or_eq_true, Bool.and_eq_true, Bool.or_eq_false_iff, Bool.and_eq_false_iff, Bool.not_eq_true', Bool.not_eq_false', decide_eq_true_eq, decide_eq_false_iff_not, Bool.not_true, Bool.not_false] at hc40
      refine wp_seq_k fun khK20 hK20 => ?_
      refine wp_region_lit ?_
      refine l_at hF rfl rfl rfl (x_move (hF.tmp 3 rfl)) ?_; clear hF; intro a hF
      refine l_at hF rfl rfl rfl (x_faddr Tryd.underlying43 rfl ty30 (by decide) (hF.tmp 8 rfl) rfl) ?_; clear hF; intro a hF
      refine l_at hF rfl rfl rfl (x_loadn (cs := #[.int .i64 (gbact xs (k : Int)).m.kind, .int .i64 (gbact xs (k : Int)).m.src, .int .i64 (gbact xs (k : Int)).m.dst, .int .i64 (gbact xs (k : Int)).m.tx, .slice fA1_0 (gbact xs (k : Int)).m.nodes.length fc1_0, .slice fA1_1 (gbact xs (k : Int)).m.changes.length fc1_1]) ty30 (hF.tmp 43 rfl) rfl (blk_sub (hH.at 8 rfl) 2 6 rfl)) ?_; clear hF; intro a hF
      refine wpList_plain rfl fun K hK => ?_
      refine w_call hF (x_enter Tryd.func9 (by kernel_rfl) rfl (by simp only [List.map_toArray, List.map_cons, List.map_nil, hF.tmp 42 rfl, hF.tmp 44 rfl] <;> rfl)) (send_calls (m := (gbact xs (k : Int)).m) _ (hH.holds 990 _ rfl) hq0_1 (hH.okX 100 rfl) hq0_2.ok (fun k h hx => hH.sep 100 990 _ _ (by decide) rfl rfl k hx (.inr h)) ((hH.rd 1006 rfl)) ((hH.rd 1007 rfl)) hbm (fun k h => hH.inb 1006 _ rfl k (.inr h)) (fun k h => hH.inb 1007 _ rfl k (.inr h)) (fun k h hx => hH.sep 100 1006 _ _ (by decide) rfl rfl k hx (.inr h)) (fun k h hx => hH.sep 100 1007 _ _ (by decide) rfl rfl k hx (.inr h))) rfl rfl ?_
      rintro _ w ⟨X1, rfl, hX1, hg_⟩; refine ⟨_, rfl, ?_⟩; clear hF; intro a hF; have hH := hH.grew 100 rfl hg_ (fun k hk => hk.elim)
      refine hK _ _ ?_; clear hK K
      refine l_at hF rfl rfl rfl (x_neq (hF.tmp 45 rfl) rfl) ?_; clear hF; intro a hF
      refine wpList_nil ?_
      refine hK20 _ _ ?_
      refine wp_cond_split (hF.tmp 46 rfl) (fun hc46 => ?_) (fun hc46 => ?_)
      ·have hk46_5 := hc46; try simp only [Bool.or_eq_true, Bool.and_eq_true, Bool.or_eq_false_iff, Bool.and_eq_false_iff, Bool.not_eq_true', Bool.not_eq_false', decide_eq_true_eq, decide_eq_false_iff_not, Bool.not_true, Bool.not_false] at hc46
       have hne_ : ¬ sendE s (gbact xs (k : Int)).m = 161 := hc46
       refine wp_seq_k fun khK21 hK21 => ?_
       refine wp_region_lit ?_
       refine l_at hF rfl rfl rfl (x_move (hF.tmp 4 rfl)) ?_; clear hF; intro a hF
       refine l_at hF rfl rfl rfl (x_faddr Tryd.underlying43 rfl ty30 (by decide) (hF.tmp 8 rfl) rfl) ?_; clear hF; intro a hF
       refine l_at hF rfl rfl rfl (x_loadn (cs := #[.int .i64 (gbact xs (k : Int)).m.kind, .int .i64 (gbact xs (k : Int)).m.src, .int .i64 (gbact xs (k : Int)).m.dst, .int .i64 (gbact xs (k : Int)).m.tx, .slice fA1_0 (gbact xs (k : Int)).m.nodes.length fc1_0, .slice fA1_1 (gbact xs (k : Int)).m.changes.length fc1_1]) ty30 (hF.tmp 48 rfl) rfl (blk_sub (hH.at 8 rfl) 2 6 rfl)) ?_; clear hF; intro a hF
       refine wpList_plain rfl fun K hK => ?_
       refine w_lit1 50 MsgE ((gbact xs (k : Int)).m) #[.int .i64 (gbact xs (k : Int)).m.kind, .int .i64 (gbact xs (k : Int)).m.src, .int .i64 (gbact xs (k : Int)).m.dst, .int .i64 (gbact xs (k : Int)).m.tx, .slice fA1_0 (gbact xs (k : Int)).m.nodes.length fc1_0, .slice fA1_1 (gbact xs (k : Int)).m.changes.length fc1_1] (fun k => k < w0.heap.size) hF hH rfl Tryd.underlying22 ty30 (by simp only [List.map_toArray, List.map_cons, List.map_nil, hF.tmp 49 rfl] <;> rfl) (by decide) (by kernel_rfl) (msg_mk (gbact xs (k : Int)).m ((hH.rd 1006 rfl)) ((hH.rd 1007 rfl))) (fun kb hk => ⟨1006, _, rfl, hk⟩) ?_
       clear hF hH; intro a w b50 hF hb50_ hH
       refine hK _ _ ?_; clear hK K
       refine wpList_plain rfl fun K hK => ?_
       refine w_append 4 50 (xs := ss) (ys := ([(gbact xs (k : Int)).m])) hF hH rfl Tryd.underlying22 ty30 rfl rfl rfl rfl ((hH.rd 50 rfl)) (by intro k_ hk_; exact .inr hk_) (hF.tmp 47 rfl) (hF.tmp 50 rfl) (by have := hq0_2.ssl; simp only [List.length_cons, List.length_nil]; omega) (by have := hq0_2.ssl; simp only [List.length_cons, List.length_nil, maxLen]; omega) (fun kb => okv kb ∨ (fun kb => (fun k => k < w0.heap.size) kb ∨ kb = b50) kb) (fun w' v' h => h) (by rintro k_ (hk_ | hk_); exact .inl hk_; exact .inr hk_) ?_
       clear hF hH; intro a w v51 hF hH
       refine hK _ _ ?_; clear hK K
       refine l_at hF rfl rfl rfl (x_assign (hF.tmp 51 rfl)) ?_; clear hF; intro a hF
       refine wpList_nil ?_
       refine hK21 _ _ ?_
       refine wp_region_lit ?_
       refine l_at hF rfl rfl rfl (x_move (hF.tmp 5 rfl)) ?_; clear hF; intro a hF
       refine l_at hF rfl rfl rfl (x_add (hF.tmp 52 rfl) rfl (w64 (by have := hq0_2.lo; have := hq0_2.cnt; omega) (by have := hq0_2.lo; have := hq0_2.cnt; omega))) ?_; clear hF; intro a hF
       refine l_at hF rfl rfl rfl (x_assign (hF.tmp 53 rfl)) ?_; clear hF; intro a hF
       refine wpList_nil ?_
       refine hK17 _ _ ?_
       refine wp_seq_k fun khK22 hK22 => ?_
       refine wp_region_lit ?_
       have hW_ := hq0_2.send (by omega) hbm hne_
       refine l_at hF rfl rfl rfl (x_move (hF.tmp 5 rfl)) ?_; clear hF; intro a hF
       refine l_at hF rfl rfl rfl (x_move (hF.tmp 6 rfl)) ?_; clear hF; intro a hF
       refine l_at hF rfl rfl rfl (x_move (hF.tmp 3 rfl)) ?_; clear hF; intro a hF
       refine wpList_plain rfl fun K hK => ?_
       refine w_call hF (x_enter Tryd.func15 (by kernel_rfl) rfl (by simp only [List.map_toArray, List.map_cons, List.map_nil, hF.tmp 126 rfl] <;> rfl)) (lost_calls _ hX1 (hH.okX 100 rfl) (send_ok hq0_2.ok hbm)) rfl rfl ?_
       rintro _ w ⟨rfl, hm_⟩; refine ⟨_, rfl, ?_⟩; clear hF; intro a hF; have hH := hH.same hm_
       refine hK _ _ ?_; clear hK K
       refine l_at hF rfl rfl rfl (x_add (hF.tmp 125 rfl) (hF.tmp 127 rfl) (w64 (by have := hW_.lo; have := hW_.cnt; omega) (by have := hW_.lo; have := hW_.cnt; omega))) ?_; clear hF; intro a hF
       refine l_at hF rfl rfl rfl (x_move (hF.tmp 3 rfl)) ?_; clear hF; intro a hF
       refine wpList_plain rfl fun K hK => ?_
       refine w_call hF (x_enter Tryd.func11 (by kernel_rfl) rfl (by simp only [List.map_toArray, List.map_cons, List.map_nil, hF.tmp 129 rfl] <;> rfl)) (blen_calls _ hX1 (hH.okX 100 rfl) (send_ok hq0_2.ok hbm)) rfl rfl ?_
       rintro _ w ⟨rfl, hm_⟩; refine ⟨_, rfl, ?_⟩; clear hF; intro a hF; have hH := hH.same hm_
       refine hK _ _ ?_; clear hK K
       refine l_at hF rfl rfl rfl (x_add (hF.tmp 128 rfl) (hF.tmp 130 rfl) (w64 (by have := hW_.lo; have := hW_.cnt; omega) (by have := hW_.lo; have := hW_.cnt; omega))) ?_; clear hF; intro a hF
       refine l_at hF rfl rfl rfl (x_neq (hF.tmp 124 rfl) (hF.tmp 131 rfl)) ?_; clear hF; intro a hF
       rw [decide_eq_true hW_.cnt] at hF
       refine wpList_nil ?_
       refine hK22 _ _ ?_
       refine wp_cond_false (hF.tmp 132 rfl) ?_
       refine wp_skip ?_
       refine hK12 _ _ ?_
       refine wp_region_lit ?_
       refine l_at hF rfl rfl rfl (x_move (hF.tmp 7 rfl)) ?_; clear hF; intro a hF
       refine l_at hF rfl rfl rfl (x_add (hF.tmp 27 rfl) rfl (w64 (by omega) (by omega))) ?_; clear hF; intro a hF
       refine l_at hF rfl rfl rfl (x_assign (hF.tmp 28 rfl)) ?_; clear hF; intro a hF
       refine wpList_nil ?_
       exact ⟨_, by omega, ⟨k + 1, X1, v51, (fun kb => okv kb ∨ (fun kb => (fun k => k < w0.heap.size) kb ∨ kb = b50) kb), (ss ++ [(gbact xs (k : Int)).m]), (sendS s (gbact xs (k : Int)).m), (count + 1), taken, rfl, by omega, hX1, hq0_2.send (by omega) hbm hne_, by omega, ((((((hF.bare.add hF 7 rfl).add hF 6 rfl).add hF 5 rfl).add hF 4 rfl).add hF 3 rfl).add hF 0 rfl), hH.sub _ (sub_cons (sub_cons (sub_cons (sub_cons (sub_nil _) 4 rfl) 100 rfl) 990 rfl) 901 rfl)⟩⟩
      ·have hk46_6 := hc46; try simp only [Bool.or_eq_true, Bool.and_eq_true, Bool.or_eq_false_iff, Bool.and_eq_false_iff, Bool.not_eq_true', Bool.not_eq_false', decide_eq_true_eq, decide_eq_false_iff_not, Bool.not_true, Bool.not_false] at hc46
       have hne_ : sendE s (gbact xs (k : Int)).m = 161 := hc46
       refine wp_skip ?_
       refine hK17 _ _ ?_
       refine wp_seq_k fun khK23 hK23 => ?_
       refine wp_region_lit ?_
       have hW_ := hq0_2.send0 hne_
       refine l_at hF rfl rfl rfl (x_move (hF.tmp 5 rfl)) ?_; clear hF; intro a hF
       refine l_at hF rfl rfl rfl (x_move (hF.tmp 6 rfl)) ?_; clear hF; intro a hF
       refine l_at hF rfl rfl rfl (x_move (hF.tmp 3 rfl)) ?_; clear hF; intro a hF
       refine wpList_plain rfl fun K hK => ?_
       refine w_call hF (x_enter Tryd.func15 (by kernel_rfl) rfl (by simp only [List.map_toArray, List.map_cons, List.map_nil, hF.tmp 126 rfl] <;> rfl)) (lost_calls _ hX1 (hH.okX 100 rfl) (send_ok hq0_2.ok hbm)) rfl rfl ?_
       rintro _ w ⟨rfl, hm_⟩; refine ⟨_, rfl, ?_⟩; clear hF; intro a hF; have hH := hH.same hm_
       refine hK _ _ ?_; clear hK K
       refine l_at hF rfl rfl rfl (x_add (hF.tmp 125 rfl) (hF.tmp 127 rfl) (w64 (by have := hW_.lo; have := hW_.cnt; omega) (by have := hW_.lo; have := hW_.cnt; omega))) ?_; clear hF; intro a hF
       refine l_at hF rfl rfl rfl (x_move (hF.tmp 3 rfl)) ?_; clear hF; intro a hF
       refine wpList_plain rfl fun K hK => ?_
       refine w_call hF (x_enter Tryd.func11 (by kernel_rfl) rfl (by simp only [List.map_toArray, List.map_cons, List.map_nil, hF.tmp 129 rfl] <;> rfl)) (blen_calls _ hX1 (hH.okX 100 rfl) (send_ok hq0_2.ok hbm)) rfl rfl ?_
       rintro _ w ⟨rfl, hm_⟩; refine ⟨_, rfl, ?_⟩; clear hF; intro a hF; have hH := hH.same hm_
       refine hK _ _ ?_; clear hK K
       refine l_at hF rfl rfl rfl (x_add (hF.tmp 128 rfl) (hF.tmp 130 rfl) (w64 (by have := hW_.lo; have := hW_.cnt; omega) (by have := hW_.lo; have := hW_.cnt; omega))) ?_; clear hF; intro a hF
       refine l_at hF rfl rfl rfl (x_neq (hF.tmp 124 rfl) (hF.tmp 131 rfl)) ?_; clear hF; intro a hF
       rw [decide_eq_true hW_.cnt] at hF
       refine wpList_nil ?_
       refine hK23 _ _ ?_
       refine wp_cond_false (hF.tmp 132 rfl) ?_
       refine wp_skip ?_
       refine hK12 _ _ ?_
       refine wp_region_lit ?_
       refine l_at hF rfl rfl rfl (x_move (hF.tmp 7 rfl)) ?_; clear hF; intro a hF
       refine l_at hF rfl rfl rfl (x_add (hF.tmp 27 rfl) rfl (w64 (by omega) (by omega))) ?_; clear hF; intro a hF
       refine l_at hF rfl rfl rfl (x_assign (hF.tmp 28 rfl)) ?_; clear hF; intro a hF
       refine wpList_nil ?_
       exact ⟨_, by omega, ⟨k + 1, X1, v4, okv, ss, (sendS s (gbact xs (k : Int)).m), count, taken, rfl, by omega, hX1, hq0_2.send0 hne_, by omega, ((((((hF.bare.add hF 7 rfl).add hF 6 rfl).add hF 5 rfl).add hF 4 rfl).add hF 3 rfl).add hF 0 rfl), hH.sub _ (sub_cons (sub_cons (sub_cons (sub_cons (sub_nil _) 4 rfl) 100 rfl) 990 rfl) 901 rfl)⟩⟩
     ·have hk40_7 := hc40; try simp only [Bool.or_eq_true, Bool.and_eq_true, Bool.or_eq_false_iff, Bool.and_eq_false_iff, Bool.not_eq_true', Bool.not_eq_false', decide_eq_true_eq, decide_eq_false_iff_not, Bool.not_true, Bool.not_false] at hc40
      refine wp_seq_k fun khK24 hK24 => ?_
      refine wp_region_lit ?_
      refine l_at hF rfl rfl rfl (x_eql (hF.tmp 39 rfl) rfl) ?_; clear hF; intro a hF
      refine l_at hF rfl rfl rfl (x_assign (hF.tmp 55 rfl)) ?_; clear hF; intro a hF
      refine wpList_nil ?_
      refine hK24 _ _ ?_
      refine wp_cond_split (hF.tmp 54 rfl) (fun hc54 => ?_) (fun hc54 => ?_)
      ·have hk54_8 := hc54; try simp only [Bool.or_eq_true, Bool.and_eq_true, Bool.or_eq_false_iff, Bool.and_eq_false_iff, Bool.not_eq_true', Bool.not_eq_false', decide_eq_true_eq, decide_eq_false_iff_not, Bool.not_true, Bool.not_false] at hc54
       refine wp_seq_k fun khK25 hK25 => ?_
       refine wp_region_lit ?_
       refine l_at hF rfl rfl rfl (x_move (hF.tmp 3 rfl)) ?_; clear hF; intro a hF
       refine l_at hF rfl rfl rfl (x_faddr Tryd.underlying43 rfl ty3 (by decide) (hF.tmp 8 rfl) rfl) ?_; clear hF; intro a hF
       refine l_at hF rfl rfl rfl (x_load1 ty3 (hF.tmp 58 rfl) (blk_cell (hH.at 8 rfl) 1 rfl)) ?_; clear hF; intro a hF
       refine wpList_plain rfl fun K hK => ?_
       refine w_call hF (x_enter Tryd.func12 (by kernel_rfl) rfl (by simp only [List.map_toArray, List.map_cons, List.map_nil, hF.tmp 57 rfl, hF.tmp 59 rfl] <;> rfl)) (take_calls _ (hH.holds 990 _ rfl) hq0_1 (hH.okX 100 rfl) hq0_2.ok (fun k h hx => hH.sep 100 990 _ _ (by decide) rfl rfl k hx (.inr h)) ((gbact xs (k : Int)).i)) rfl rfl ?_
       rintro _ w ⟨X1, An70, cn70, Ac70, cc70, okm70, rfl, hX1, hg_, ⟨h1_, h2_⟩, hf_, hap_⟩; refine ⟨_, rfl, ?_⟩; clear hF; intro a hF; have hHo := hH; have hH := hHo.grew 100 rfl hg_ (fun k hk => hk.elim); have hH := hH.readNew (w := _) 100 70 (own_old hHo) (fun Y hY => by cases hY; exact hap_) h1_ hf_; have hH := hH.readNew 100 71 (own_old2 hHo) (fun Y hY => by cases hY; exact hap_) h2_ hf_
       refine hK _ _ ?_; clear hK K
       refine l_at hF rfl rfl rfl (x_move (hF.tmp 60 rfl)) ?_; clear hF; intro a hF
       refine l_at hF rfl rfl rfl (x_extract (hF.tmp 56 rfl) rfl) ?_; clear hF; intro a hF
       refine l_at hF rfl rfl rfl (x_extract (hF.tmp 56 rfl) rfl) ?_; clear hF; intro a hF
       refine l_at hF rfl rfl rfl (x_extract (hF.tmp 56 rfl) rfl) ?_; clear hF; intro a hF
       refine wpList_plain rfl fun K hK => ?_
       refine w_alloc 10 hF hH rfl ty30 ?_
       clear hF hH; intro a w b10 hF hH
       refine hK _ _ ?_; clear hK K
       refine wpList_plain rfl fun K hK => ?_
       refine w_storeA 10 hH ty30 rfl (hF.tmp 10 rfl) (hF.tmp 61 rfl) rfl (by simp [Value.cells, Value.oneCell']) rfl ?_
       clear hH; intro w hH
       refine hK _ _ ?_; clear hK K
       refine l_at hF rfl rfl rfl (x_assign (hF.tmp 62 rfl)) ?_; clear hF; intro a hF
       refine l_at hF rfl rfl rfl (x_assign (hF.tmp 63 rfl)) ?_; clear hF; intro a hF
       refine wpList_nil ?_
       refine hK25 _ _ ?_
       refine wp_seq_k fun khK26 hK26 => ?_
       refine wp_region_lit ?_
       refine l_at hF rfl rfl rfl (x_move (hF.tmp 12 rfl)) ?_; clear hF; intro a hF
       refine l_at hF rfl rfl rfl (x_neq (hF.tmp 64 rfl) rfl) ?_; clear hF; intro a hF
       refine l_at hF rfl rfl rfl (x_assign (hF.tmp 65 rfl)) ?_; clear hF; intro a hF
       refine wpList_nil ?_
       refine hK26 _ _ ?_
       refine wp_seq_k fun khK27 hK27 => ?_
       refine wp_seq_k fun khK28 hK28 => ?_
       refine wp_region_lit ?_
       obtain ⟨A4, c4, rfl⟩ := (hH.row 4 rfl).form
       have hssl := hq0_2.ssl
       refine l_at hF rfl rfl rfl (x_assign rfl) ?_; clear hF; intro a hF
       refine wpList_nil ?_
       refine hK28 _ _ ?_
       refine wp_block ?_
       refine wp_loop_ghost (fun n_ a w => ∃ j : Nat, ∃ q : Bool, n_ = ss.length - j ∧ (j ≤ ss.length) ∧ (q = (!decide (lookE s (gbact xs (k : Int)).i = 0) || decide (lookM s (gbact xs (k : Int)).i ∈ ss.take j))) ∧ Fr 134 a [(0, .slice A xs.length c), (3, .pointer (some ⟨bb, 0, none⟩)), (4, .slice A4 ss.length c4), (5, .int .i64 count), (6, .int .i64 taken), (7, .int .i64 (k : Int)), (10, .pointer (some ⟨b10, 0, none⟩)), (11, .bool (freshS s ((gbact xs (k : Int)).i))), (12, .int .i64 (lookE s ((gbact xs (k : Int)).i))), (13, .bool q), (14, .int .i64 (j : Int))] ∧ Hp (fun _ => False) w0 w [(901, .rd_ BactE A xs c (fun k => k < w0.heap.size)), (990, .lib true), (100, X1), (4, .row MsgE 30 (.slice A4 ss.length c4) ss okv), (1006, .rd_ (.int .i64) (fA1_0) (gbact xs (k : Int)).m.nodes fc1_0 (fun k => k < w0.heap.size)), (1007, .rd_ ChgE (fA1_1) (gbact xs (k : Int)).m.changes fc1_1 (fun k => k < w0.heap.size)), (1499, .cels (adr A (Int.toNat (k : Int) * 8)) #[.int .i64 (gbact xs (k : Int)).kind, .int .i64 (gbact xs (k : Int)).i, .int .i64 (gbact xs (k : Int)).m.kind, .int .i64 (gbact xs (k : Int)).m.src, .int .i64 (gbact xs (k : Int)).m.dst, .int .i64 (gbact xs (k : Int)).m.tx, .slice fA1_0 (gbact xs (k : Int)).m.nodes.length fc1_0, .slice fA1_1 (gbact xs (k : Int)).m.changes.length fc1_1]), (1500, .cel (adr A (Int.toNat (k : Int) * 8)) (.int .i64 (gbact xs (k : Int)).kind)), (1501, .cel (adr A (Int.toNat (k : Int) * 8 + 1)) (.int .i64 (gbact xs (k : Int)).i)), (1502, .cel (adr A (Int.toNat (k : Int) * 8 + 2)) (.int .i64 (gbact xs (k : Int)).m.kind)), (1503, .cel (adr A (Int.toNat (k : Int) * 8 + 3)) (.int .i64 (gbact xs (k : Int)).m.src)), (1504, .cel (adr A (Int.toNat (k : Int) * 8 + 4)) (.int .i64 (gbact xs (k : Int)).m.dst)), (1505, .cel (adr A (Int.toNat (k : Int) * 8 + 5)) (.int .i64 (gbact xs (k : Int)).m.tx)), (1506, .cel (adr A (Int.toNat (k : Int) * 8 + 6)) (.slice fA1_0 (gbact xs (k : Int)).m.nodes.length fc1_0)), (1507, .cel (adr A (Int.toNat (k : Int) * 8 + 7)) (.slice fA1_1 (gbact xs (k : Int)).m.changes.length fc1_1)), (8, .blk b8 (.cells #[.int .i64 (gbact xs (k : Int)).kind, .int .i64 (gbact xs (k : Int)).i, .int .i64 (gbact xs (k : Int)).m.kind, .int .i64 (gbact xs (k : Int)).m.src, .int .i64 (gbact xs (k : Int)).m.dst, .int .i64 (gbact xs (k : Int)).m.tx, .slice fA1_0 (gbact xs (k : Int)).m.nodes.length fc1_0, .slice fA1_1 (gbact xs (k : Int)).m.changes.length fc1_1] 43 (0, 0))), (70, .rd_ (.int .i64) An70 ((lookM s ((gbact xs (k : Int)).i)).nodes) cn70 okm70), (71, .rd_ ChgE Ac70 ((lookM s ((gbact xs (k : Int)).i)).changes) cc70 okm70), (10, .blk b10 (.cells #[.int .i64 (lookM s ((gbact xs (k : Int)).i)).kind, .int .i64 (lookM s ((gbact xs (k : Int)).i)).src, .int .i64 (lookM s ((gbact xs (k : Int)).i)).dst, .int .i64 (lookM s ((gbact xs (k : Int)).i)).tx, .slice An70 (lookM s ((gbact xs (k : Int)).i)).nodes.length cn70, .slice Ac70 (lookM s ((gbact xs (k : Int)).i)).changes.length cc70] 30 (0, 0)))]) (ss.length) ?_ ?_
       ·exact ⟨0, (!decide (lookE s (gbact xs (k : Int)).i = 0)), rfl, by omega, by simp, (((((((((((hF.bare.add hF 14 rfl).add hF 13 rfl).add hF 12 rfl).add hF 11 rfl).add hF 10 rfl).add hF 7 rfl).add hF 6 rfl).add hF 5 rfl).add hF 4 rfl).add hF 3 rfl).add hF 0 rfl), hH.sub _ (sub_cons (sub_cons (sub_cons (sub_cons (sub_cons (sub_cons (sub_cons (sub_cons (sub_cons (sub_cons (sub_cons (sub_cons (sub_cons (sub_cons (sub_cons (sub_cons (sub_cons (sub_cons (sub_cons (sub_nil _) 10 rfl) 71 rfl) 70 rfl) 8 rfl) 1507 rfl) 1506 rfl) 1505 rfl) 1504 rfl) 1503 rfl) 1502 rfl) 1501 rfl) 1500 rfl) 1499 rfl) 1007 rfl) 1006 rfl) 4 rfl) 100 rfl) 990 rfl) 901 rfl)⟩
       ·rintro _ a w ⟨j, q, rfl, hq3_0, hq3_1, hF, hH⟩
        refine wp_seq_k fun khK29 hK29 => ?_
        refine wp_seq_k fun khK30 hK30 => ?_
        refine wp_region_lit ?_
        refine l_at hF rfl rfl rfl (x_move (hF.tmp 14 rfl)) ?_; clear hF; intro a hF
        refine l_at hF rfl rfl rfl (x_move (hF.tmp 4 rfl)) ?_; clear hF; intro a hF
        refine l_at hF rfl rfl rfl (x_len_slice Tryd.underlying22 (hF.tmp 67 rfl)) ?_; clear hF; intro a hF
        refine l_at hF rfl rfl rfl (x_lss (hF.tmp 66 rfl) (hF.tmp 68 rfl)) ?_; clear hF; intro a hF
        refine wpList_nil ?_
        refine hK30 _ _ ?_
        refine wp_cond_split (hF.tmp 69 rfl) (fun hc69 => ?_) (fun hc69 => ?_)
        ·have hk69_9 := hc69; try simp only [Bool.or_eq_true, Bool.and_eq_true, Bool.or_eq_false_iff, Bool.and_eq_false_iff, Bool.not_eq_true', Bool.not_eq_false', decide_eq_true_eq, decide_eq_false_iff_not, Bool.not_true, Bool.not_false] at hc69
         refine wp_skip ?_
         refine hK29 _ _ ?_
         refine wp_seq_k fun khK31 hK31 => ?_
         refine wp_block ?_
         refine wp_seq_k fun khK32 hK32 => ?_
         refine r_start [(10, .blk b10 (.cells #[.int .i64 (lookM s ((gbact xs (k : Int)).i)).kind, .int .i64 (lookM s ((gbact xs (k : Int)).i)).src, .int .i64 (lookM s ((gbact xs (k : Int)).i)).dst, .int .i64 (lookM s ((gbact xs (k : Int)).i)).tx, .slice An70 (lookM s ((gbact xs (k : Int)).i)).nodes.length cn70, .slice Ac70 (lookM s ((gbact xs (k : Int)).i)).changes.length cc70] 30 (0, 0)))] (by kernel_rfl) hH fun hH => ?_
         have hS : SL [(10, .blk b10 (.cells #[.int .i64 (lookM s ((gbact xs (k : Int)).i)).kind, .int .i64 (lookM s ((gbact xs (k : Int)).i)).src, .int .i64 (lookM s ((gbact xs (k : Int)).i)).dst, .int .i64 (lookM s ((gbact xs (k : Int)).i)).tx, .slice An70 (lookM s ((gbact xs (k : Int)).i)).nodes.length cn70, .slice Ac70 (lookM s ((gbact xs (k : Int)).i)).changes.length cc70] 30 (0, 0)))] _ := SL.of hH (sub_cons (sub_nil _) 10 rfl)
         refine r_take 0 hF rfl rfl rfl (by kernel_rfl) (by kernel_rfl) (by kernel_rfl) (fun _ _ _ h => h) rfl hS (fun w hS => x_loadn ty30 (hF.tmp 10 rfl) rfl (blk_whole (SL.at_ hS 10 rfl))) rfl ?_; clear hF; intro a hF
         refine r_take 1 hF rfl rfl rfl (by kernel_rfl) (by kernel_rfl) (by kernel_rfl) (fun _ _ _ h => h) rfl hS (fun w hS => x_move (hF.tmp 4 rfl)) rfl ?_; clear hF; intro a hF
         refine r_take 2 hF rfl rfl rfl (by kernel_rfl) (by kernel_rfl) (by kernel_rfl) (fun _ _ _ h => h) rfl hS (fun w hS => x_move (hF.tmp 14 rfl)) rfl ?_; clear hF; intro a hF
         refine r_take 3 hF rfl rfl rfl (by kernel_rfl) (by kernel_rfl) (by kernel_rfl) (fun _ _ _ h => h) rfl hS (fun w hS => x_iaddr_A Tryd.underlying22 ty30 (Row.rd (ok' := fun k_ => okv k_ ∨ (.slice A4 ss.length c4 : Value).ownBlock = some k_) (hH.row 4 rfl) (fun _ hk_ _ => .inl hk_) (fun _ hk_ => .inr hk_)) (hF.tmp 73 rfl) (hF.tmp 74 rfl) (by omega) (by omega) _) rfl ?_; clear hF; intro a hF
         obtain ⟨cs3, hR3, hfw3⟩ := Row.whole_ (n := 6) (hH.row 4 rfl) (gmsg_some (xs := ss) (i := (j : Int)) (by omega) (by omega)) rfl
         obtain ⟨fA3_0, fc3_0, fA3_1, fc3_1, rfl, hfr3_0, hfr3_1⟩ := msg_cells hR3
         have hH := hH.subrd 4 rfl 3004 hfr3_0 (fun _ h => h)
         have hH := hH.subrd 4 rfl 3005 hfr3_1 (fun _ h => h)
         have hms_ := gmsg_mem (xs := ss) (j := j) (by omega)
         refine r_do 4 rfl (by kernel_rfl) rfl rfl ?_
         refine w_at hF (x_loadn ty30 (hF.tmp 75 rfl) rfl hfw3) rfl rfl ?_
         clear hF; intro a hF
         clear hS; have hS : SL _ _ := SL.of hH (sub_cons (sub_nil _) 10 rfl); refine ⟨hS, ?_⟩
         refine r_do 5 rfl (by kernel_rfl) rfl rfl ?_
         refine w_call hF (x_enter Tryd.func13 (by kernel_rfl) rfl (by simp only [List.map_toArray, List.map_cons, List.map_nil, hF.tmp 72 rfl, hF.tmp 76 rfl] <;> rfl)) (r16same_calls _ ((hH.rd 70 rfl)) ((hH.rd 71 rfl)) ((hH.rd 3004 rfl)) ((hH.rd 3005 rfl)) (look_B hq0_2.ok _) (hq0_2.ssb _ hms_)) rfl rfl ?_
         rintro _ w ⟨rfl, hm_⟩; refine ⟨_, rfl, ?_⟩; clear hF; intro a hF; have hH := hH.same hm_
         clear hS; have hS : SL _ _ := SL.of hH (sub_cons (sub_nil _) 10 rfl); refine ⟨hS, ?_⟩
         refine r_take 6 hF rfl rfl rfl (by kernel_rfl) (by kernel_rfl) (by kernel_rfl) (fun _ _ _ h => h) rfl hS (fun w hS => x_assign (hF.tmp 77 rfl)) rfl ?_; clear hF; intro a hF
         refine r_end (by kernel_rfl) ?_; clear hS
         refine hK32 _ _ ?_
         refine wp_region_lit ?_
         refine l_at hF rfl rfl rfl (x_move (hF.tmp 13 rfl)) ?_; clear hF; intro a hF
         refine l_at hF rfl rfl rfl (x_move (hF.tmp 78 rfl)) ?_; clear hF; intro a hF
         refine split_bool hF 79 rfl (fun hb79 => ?_) (fun hb79 => ?_)
         ·have hc79 := hb79; try simp only [Bool.or_eq_true, Bool.and_eq_true, Bool.or_eq_false_iff, Bool.and_eq_false_iff, Bool.not_eq_true', Bool.not_eq_false', decide_eq_true_eq, decide_eq_false_iff_not, Bool.not_true, Bool.not_false] at hc79
          refine l_offg hF ((wanted_of hF rfl rfl rfl rfl).trans (by rw [hb79]; rfl)) rfl rfl ?_; clear hF; intro a hF
          refine l_at hF rfl rfl rfl (x_pickT (hF.tmp 79 rfl) hb79 rfl) ?_; clear hF; intro a hF
          refine l_at hF rfl rfl rfl (x_assign (hF.tmp 81 rfl)) ?_; clear hF; intro a hF
          refine wpList_nil ?_
          refine hK31 _ _ ?_
          refine wp_region_lit ?_
          refine l_at hF rfl rfl rfl (x_move (hF.tmp 14 rfl)) ?_; clear hF; intro a hF
          refine l_at hF rfl rfl rfl (x_add (hF.tmp 70 rfl) rfl (w64 (by omega) (by omega))) ?_; clear hF; intro a hF
          refine l_at hF rfl rfl rfl (x_assign (hF.tmp 71 rfl)) ?_; clear hF; intro a hF
          refine wpList_nil ?_
          exact ⟨_, by omega, ⟨j + 1, true, rfl, by omega, known_t hq3_1 hb79 (by omega), (((((((((((hF.bare.add hF 14 rfl).add hF 13 rfl).add hF 12 rfl).add hF 11 rfl).add hF 10 rfl).add hF 7 rfl).add hF 6 rfl).add hF 5 rfl).add hF 4 rfl).add hF 3 rfl).add hF 0 rfl), hH.sub _ (sub_cons (sub_cons (sub_cons (sub_cons (sub_cons (sub_cons (sub_cons (sub_cons (sub_cons (sub_cons (sub_cons (sub_cons (sub_cons (sub_cons (sub_cons (sub_cons (sub_cons (sub_cons (sub_cons (sub_nil _) 10 rfl) 71 rfl) 70 rfl) 8 rfl) 1507 rfl) 1506 rfl) 1505 rfl) 1504 rfl) 1503 rfl) 1502 rfl) 1501 rfl) 1500 rfl) 1499 rfl) 1007 rfl) 1006 rfl) 4 rfl) 100 rfl) 990 rfl) 901 rfl)⟩⟩
         ·have hc79 := hb79; try simp only [Bool.or_eq_true, Bool.and_eq_true, Bool.or_eq_false_iff, Bool.and_eq_false_iff, Bool.not_eq_true', Bool.not_eq_false', decide_eq_true_eq, decide_eq_false_iff_not, Bool.not_true, Bool.not_false] at hc79
          refine l_atg hF ((wanted_of hF rfl rfl rfl rfl).trans (by rw [hb79]; rfl)) rfl rfl (x_move (hF.tmp 15 rfl)) ?_; clear hF; intro a hF
          refine l_at hF rfl rfl rfl (x_pickF (hF.tmp 79 rfl) hb79 (hF.tmp 80 rfl)) ?_; clear hF; intro a hF
          refine l_at hF rfl rfl rfl (x_assign (hF.tmp 81 rfl)) ?_; clear hF; intro a hF
          refine wpList_nil ?_
          refine hK31 _ _ ?_
          refine wp_region_lit ?_
          refine l_at hF rfl rfl rfl (x_move (hF.tmp 14 rfl)) ?_; clear hF; intro a hF
          refine l_at hF rfl rfl rfl (x_add (hF.tmp 70 rfl) rfl (w64 (by omega) (by omega))) ?_; clear hF; intro a hF
          refine l_at hF rfl rfl rfl (x_assign (hF.tmp 71 rfl)) ?_; clear hF; intro a hF
          refine wpList_nil ?_
          exact ⟨_, by omega, ⟨j + 1, (decide (lookM s (gbact xs (k : Int)).i = gmsg ss (j : Int))), rfl, by omega, known_f hq3_1 hb79 (by omega), (((((((((((hF.bare.add hF 14 rfl).add hF 13 rfl).add hF 12 rfl).add hF 11 rfl).add hF 10 rfl).add hF 7 rfl).add hF 6 rfl).add hF 5 rfl).add hF 4 rfl).add hF 3 rfl).add hF 0 rfl), hH.sub _ (sub_cons (sub_cons (sub_cons (sub_cons (sub_cons (sub_cons (sub_cons (sub_cons (sub_cons (sub_cons (sub_cons (sub_cons (sub_cons (sub_cons (sub_cons (sub_cons (sub_cons (sub_cons (sub_cons (sub_nil _) 10 rfl) 71 rfl) 70 rfl) 8 rfl) 1507 rfl) 1506 rfl) 1505 rfl) 1504 rfl) 1503 rfl) 1502 rfl) 1501 rfl) 1500 rfl) 1499 rfl) 1007 rfl) 1006 rfl) 4 rfl) 100 rfl) 990 rfl) 901 rfl)⟩⟩
        ·have hk69_10 := hc69; try simp only [Bool.or_eq_true, Bool.and_eq_true, Bool.or_eq_false_iff, Bool.and_eq_false_iff, Bool.not_eq_true', Bool.not_eq_false', decide_eq_true_eq, decide_eq_false_iff_not, Bool.not_true, Bool.not_false] at hc69
         obtain rfl : j = ss.length := by omega
         obtain rfl := known_end hq0_2 hq3_1
         refine wp_exit ?_
         refine hK27 _ _ ?_
         refine wp_seq_k fun khK33 hK33 => ?_
         refine wp_seq_k fun khK34 hK34 => ?_
         refine wp_region_lit ?_
         refine l_at hF rfl rfl rfl (x_move (hF.tmp 13 rfl)) ?_; clear hF; intro a hF
         refine l_at hF rfl rfl rfl (x_not (hF.tmp 82 rfl)) ?_; clear hF; intro a hF
         refine l_at hF rfl rfl rfl (x_move (hF.tmp 83 rfl)) ?_; clear hF; intro a hF
         refine l_atg hF ((wanted_of hF rfl rfl rfl rfl).trans rfl) rfl rfl (x_move (hF.tmp 12 rfl)) ?_; clear hF; intro a hF
         refine l_atg hF ((wanted_of hF rfl rfl rfl rfl).trans rfl) rfl rfl (x_eql (hF.tmp 85 rfl) rfl) ?_; clear hF; intro a hF
         refine l_atg hF ((wanted_of hF rfl rfl rfl rfl).trans rfl) rfl rfl (x_move (hF.tmp 86 rfl)) ?_; clear hF; intro a hF
         refine split_bool hF 87 rfl (fun hb87 => ?_) (fun hb87 => ?_)
         ·have hc87 := hb87; try simp only [Bool.or_eq_true, Bool.and_eq_true, Bool.or_eq_false_iff, Bool.and_eq_false_iff, Bool.not_eq_true', Bool.not_eq_false', decide_eq_true_eq, decide_eq_false_iff_not, Bool.not_true, Bool.not_false] at hc87
          refine l_atg hF ((wanted_of hF rfl rfl rfl rfl).trans (by rw [hb87]; rfl)) rfl rfl (x_move (hF.tmp 11 rfl)) ?_; clear hF; intro a hF
          refine l_atg hF ((wanted_of hF rfl rfl rfl rfl).trans (by rw [hb87]; rfl)) rfl rfl (x_not (hF.tmp 88 rfl)) ?_; clear hF; intro a hF
          refine l_atg hF ((wanted_of hF rfl rfl rfl rfl).trans rfl) rfl rfl (x_pickT (hF.tmp 87 rfl) hb87 (hF.tmp 89 rfl)) ?_; clear hF; intro a hF
          refine l_atg hF ((wanted_of hF rfl rfl rfl rfl).trans rfl) rfl rfl (x_move (hF.tmp 90 rfl)) ?_; clear hF; intro a hF
          refine split_bool hF 91 rfl (fun hb91 => ?_) (fun hb91 => ?_)
          ·have hc91 := hb91; try simp only [Bool.or_eq_true, Bool.and_eq_true, Bool.or_eq_false_iff, Bool.and_eq_false_iff, Bool.not_eq_true', Bool.not_eq_false', decide_eq_true_eq, decide_eq_false_iff_not, Bool.not_true, Bool.not_false] at hc91
           refine l_atg hF ((wanted_of hF rfl rfl rfl rfl).trans (by rw [hb91]; rfl)) rfl rfl (x_move (hF.tmp 3 rfl)) ?_; clear hF; intro a hF
           refine l_atg hF ((wanted_of hF rfl rfl rfl rfl).trans (by rw [hb91]; rfl)) rfl rfl (x_faddr Tryd.underlying30 rfl ty3 (by decide) (hF.tmp 10 rfl) rfl) ?_; clear hF; intro a hF
           refine l_atg hF ((wanted_of hF rfl rfl rfl rfl).trans (by rw [hb91]; rfl)) rfl rfl (x_load1 ty3 (hF.tmp 93 rfl) (blk_cell (hH.at 10 rfl) 2 rfl)) ?_; clear hF; intro a hF
           refine wpList_on ((wanted_of hF rfl rfl rfl rfl).trans (by rw [hb91]; rfl)) fun K hK => ?_
           refine w_call hF (x_enter Tryd.func17 (by kernel_rfl) rfl (by simp only [List.map_toArray, List.map_cons, List.map_nil, hF.tmp 92 rfl, hF.tmp 94 rfl] <;> rfl)) (epoch_calls _ hX1 (hH.okX 100 rfl) (take_ok hq0_2.ok ((gbact xs (k : Int)).i)) ((lookM s ((gbact xs (k : Int)).i)).dst)) rfl rfl ?_
           rintro _ w ⟨rfl, hm_⟩; refine ⟨_, rfl, ?_⟩; clear hF; intro a hF; have hH := hH.same hm_
           refine hK _ _ ?_; clear hK K
           refine l_atg hF ((wanted_of hF rfl rfl rfl rfl).trans (by rw [hb91]; rfl)) rfl rfl (x_eql (hF.tmp 95 rfl) rfl) ?_; clear hF; intro a hF
           rw [decide_eq_false (show ¬ epoS (takeS s (gbact xs (k : Int)).i) (lookM s (gbact xs (k : Int)).i).dst = 0 by rw [epo_take]; exact hq0_2.fresh hc87 hc91)] at hF
           refine l_atg hF ((wanted_of hF rfl rfl rfl rfl).trans rfl) rfl rfl (x_pickT (hF.tmp 91 rfl) hb91 (hF.tmp 96 rfl)) ?_; clear hF; intro a hF
           refine l_at hF rfl rfl rfl (x_pickF (hF.tmp 84 rfl) rfl (hF.tmp 97 rfl)) ?_; clear hF; intro a hF
           refine wpList_nil ?_
           refine hK34 _ _ ?_
           refine wp_cond_false (hF.tmp 98 rfl) ?_
           refine wp_skip ?_
           refine hK33 _ _ ?_
           refine wp_seq_k fun khK35 hK35 => ?_
           refine wp_region_lit ?_
           refine l_at hF rfl rfl rfl (x_move (hF.tmp 12 rfl)) ?_; clear hF; intro a hF
           refine l_at hF rfl rfl rfl (x_eql (hF.tmp 99 rfl) rfl) ?_; clear hF; intro a hF
           refine wpList_nil ?_
           refine hK35 _ _ ?_
           refine wp_cond_true ((hF.tmp 100 rfl).trans (by rw [hb87])) ?_
           have he_ : lookE s (gbact xs (k : Int)).i = 0 := by first | exact hc100 | exact hc87
           refine wp_region_lit ?_
           refine l_at hF rfl rfl rfl (x_move (hF.tmp 6 rfl)) ?_; clear hF; intro a hF
           refine l_at hF rfl rfl rfl (x_add (hF.tmp 101 rfl) rfl (w64 (by have := hq0_2.lo; have := hq0_2.cnt; omega) (by have := hq0_2.lo; have := hq0_2.cnt; omega))) ?_; clear hF; intro a hF
           refine l_at hF rfl rfl rfl (x_assign (hF.tmp 102 rfl)) ?_; clear hF; intro a hF
           refine wpList_nil ?_
           refine hK17 _ _ ?_
           refine wp_seq_k fun khK36 hK36 => ?_
           refine wp_region_lit ?_
           have hW_ := hq0_2.take1 he_
           refine l_at hF rfl rfl rfl (x_move (hF.tmp 5 rfl)) ?_; clear hF; intro a hF
           refine l_at hF rfl rfl rfl (x_move (hF.tmp 6 rfl)) ?_; clear hF; intro a hF
           refine l_at hF rfl rfl rfl (x_move (hF.tmp 3 rfl)) ?_; clear hF; intro a hF
           refine wpList_plain rfl fun K hK => ?_
           refine w_call hF (x_enter Tryd.func15 (by kernel_rfl) rfl (by simp only [List.map_toArray, List.map_cons, List.map_nil, hF.tmp 126 rfl] <;> rfl)) (lost_calls _ hX1 (hH.okX 100 rfl) (take_ok hq0_2.ok ((gbact xs (k : Int)).i))) rfl rfl ?_
           rintro _ w ⟨rfl, hm_⟩; refine ⟨_, rfl, ?_⟩; clear hF; intro a hF; have hH := hH.same hm_
           refine hK _ _ ?_; clear hK K
           refine l_at hF rfl rfl rfl (x_add (hF.tmp 125 rfl) (hF.tmp 127 rfl) (w64 (by have := hW_.lo; have := hW_.cnt; omega) (by have := hW_.lo; have := hW_.cnt; omega))) ?_; clear hF; intro a hF
           refine l_at hF rfl rfl rfl (x_move (hF.tmp 3 rfl)) ?_; clear hF; intro a hF
           refine wpList_plain rfl fun K hK => ?_
           refine w_call hF (x_enter Tryd.func11 (by kernel_rfl) rfl (by simp only [List.map_toArray, List.map_cons, List.map_nil, hF.tmp 129 rfl] <;> rfl)) (blen_calls _ hX1 (hH.okX 100 rfl) (take_ok hq0_2.ok ((gbact xs (k : Int)).i))) rfl rfl ?_
           rintro _ w ⟨rfl, hm_⟩; refine ⟨_, rfl, ?_⟩; clear hF; intro a hF; have hH := hH.same hm_
           refine hK _ _ ?_; clear hK K
           refine l_at hF rfl rfl rfl (x_add (hF.tmp 128 rfl) (hF.tmp 130 rfl) (w64 (by have := hW_.lo; have := hW_.cnt; omega) (by have := hW_.lo; have := hW_.cnt; omega))) ?_; clear hF; intro a hF
           refine l_at hF rfl rfl rfl (x_neq (hF.tmp 124 rfl) (hF.tmp 131 rfl)) ?_; clear hF; intro a hF
           rw [decide_eq_true hW_.cnt] at hF
           refine wpList_nil ?_
           refine hK36 _ _ ?_
           refine wp_cond_false (hF.tmp 132 rfl) ?_
           refine wp_skip ?_
           refine hK12 _ _ ?_
           refine wp_region_lit ?_
           refine l_at hF rfl rfl rfl (x_move (hF.tmp 7 rfl)) ?_; clear hF; intro a hF
           refine l_at hF rfl rfl rfl (x_add (hF.tmp 27 rfl) rfl (w64 (by omega) (by omega))) ?_; clear hF; intro a hF
           refine l_at hF rfl rfl rfl (x_assign (hF.tmp 28 rfl)) ?_; clear hF; intro a hF
           refine wpList_nil ?_
           exact ⟨_, by omega, ⟨k + 1, X1, .slice A4 ss.length c4, okv, ss, (takeS s ((gbact xs (k : Int)).i)), count, (taken + 1), rfl, by omega, hX1, hq0_2.take1 he_, by omega, ((((((hF.bare.add hF 7 rfl).add hF 6 rfl).add hF 5 rfl).add hF 4 rfl).add hF 3 rfl).add hF 0 rfl), hH.sub _ (sub_cons (sub_cons (sub_cons (sub_cons (sub_nil _) 4 rfl) 100 rfl) 990 rfl) 901 rfl)⟩⟩
          ·have hc91 := hb91; try simp only [Bool.or_eq_true, Bool.and_eq_true, Bool.or_eq_false_iff, Bool.and_eq_false_iff, Bool.not_eq_true', Bool.not_eq_false', decide_eq_true_eq, decide_eq_false_iff_not, Bool.not_true, Bool.not_false] at hc91
           refine l_offg hF ((wanted_of hF rfl rfl rfl rfl).trans (by rw [hb91]; rfl)) rfl rfl ?_; clear hF; intro a hF
           refine l_offg hF ((wanted_of hF rfl rfl rfl rfl).trans (by rw [hb91]; rfl)) rfl rfl ?_; clear hF; intro a hF
           refine l_offg hF ((wanted_of hF rfl rfl rfl rfl).trans (by rw [hb91]; rfl)) rfl rfl ?_; clear hF; intro a hF
           refine l_offg hF ((wanted_of hF rfl rfl rfl rfl).trans (by rw [hb91]; rfl)) rfl rfl ?_; clear hF; intro a hF
           refine l_offg hF ((wanted_of hF rfl rfl rfl rfl).trans (by rw [hb91]; rfl)) rfl rfl ?_; clear hF; intro a hF
           refine l_atg hF ((wanted_of hF rfl rfl rfl rfl).trans rfl) rfl rfl (x_pickF (hF.tmp 91 rfl) hb91 rfl) ?_; clear hF; intro a hF
           refine l_at hF rfl rfl rfl (x_pickF (hF.tmp 84 rfl) rfl (hF.tmp 97 rfl)) ?_; clear hF; intro a hF
           refine wpList_nil ?_
           refine hK34 _ _ ?_
           refine wp_cond_false (hF.tmp 98 rfl) ?_
           refine wp_skip ?_
           refine hK33 _ _ ?_
           refine wp_seq_k fun khK37 hK37 => ?_
           refine wp_region_lit ?_
           refine l_at hF rfl rfl rfl (x_move (hF.tmp 12 rfl)) ?_; clear hF; intro a hF
           refine l_at hF rfl rfl rfl (x_eql (hF.tmp 99 rfl) rfl) ?_; clear hF; intro a hF
           refine wpList_nil ?_
           refine hK37 _ _ ?_
           refine wp_cond_true ((hF.tmp 100 rfl).trans (by rw [hb87])) ?_
           have he_ : lookE s (gbact xs (k : Int)).i = 0 := by first | exact hc100 | exact hc87
           refine wp_region_lit ?_
           refine l_at hF rfl rfl rfl (x_move (hF.tmp 6 rfl)) ?_; clear hF; intro a hF
           refine l_at hF rfl rfl rfl (x_add (hF.tmp 101 rfl) rfl (w64 (by have := hq0_2.lo; have := hq0_2.cnt; omega) (by have := hq0_2.lo; have := hq0_2.cnt; omega))) ?_; clear hF; intro a hF
           refine l_at hF rfl rfl rfl (x_assign (hF.tmp 102 rfl)) ?_; clear hF; intro a hF
           refine wpList_nil ?_
           refine hK17 _ _ ?_
           refine wp_seq_k fun khK38 hK38 => ?_
           refine wp_region_lit ?_
           have hW_ := hq0_2.take1 he_
           refine l_at hF rfl rfl rfl (x_move (hF.tmp 5 rfl)) ?_; clear hF; intro a hF
           refine l_at hF rfl rfl rfl (x_move (hF.tmp 6 rfl)) ?_; clear hF; intro a hF
           refine l_at hF rfl rfl rfl (x_move (hF.tmp 3 rfl)) ?_; clear hF; intro a hF
           refine wpList_plain rfl fun K hK => ?_
           refine w_call hF (x_enter Tryd.func15 (by kernel_rfl) rfl (by simp only [List.map_toArray, List.map_cons, List.map_nil, hF.tmp 126 rfl] <;> rfl)) (lost_calls _ hX1 (hH.okX 100 rfl) (take_ok hq0_2.ok ((gbact xs (k : Int)).i))) rfl rfl ?_
           rintro _ w ⟨rfl, hm_⟩; refine ⟨_, rfl, ?_⟩; clear hF; intro a hF; have hH := hH.same hm_
           refine hK _ _ ?_; clear hK K
           refine l_at hF rfl rfl rfl (x_add (hF.tmp 125 rfl) (hF.tmp 127 rfl) (w64 (by have := hW_.lo; have := hW_.cnt; omega) (by have := hW_.lo; have := hW_.cnt; omega))) ?_; clear hF; intro a hF
           refine l_at hF rfl rfl rfl (x_move (hF.tmp 3 rfl)) ?_; clear hF; intro a hF
           refine wpList_plain rfl fun K hK => ?_
           refine w_call hF (x_enter Tryd.func11 (by kernel_rfl) rfl (by simp only [List.map_toArray, List.map_cons, List.map_nil, hF.tmp 129 rfl] <;> rfl)) (blen_calls _ hX1 (hH.okX 100 rfl) (take_ok hq0_2.ok ((gbact xs (k : Int)).i))) rfl rfl ?_
           rintro _ w ⟨rfl, hm_⟩; refine ⟨_, rfl, ?_⟩; clear hF; intro a hF; have hH := hH.same hm_
           refine hK _ _ ?_; clear hK K
           refine l_at hF rfl rfl rfl (x_add (hF.tmp 128 rfl) (hF.tmp 130 rfl) (w64 (by have := hW_.lo; have := hW_.cnt; omega) (by have := hW_.lo; have := hW_.cnt; omega))) ?_; clear hF; intro a hF
           refine l_at hF rfl rfl rfl (x_neq (hF.tmp 124 rfl) (hF.tmp 131 rfl)) ?_; clear hF; intro a hF
           rw [decide_eq_true hW_.cnt] at hF
           refine wpList_nil ?_
           refine hK38 _ _ ?_
           refine wp_cond_false (hF.tmp 132 rfl) ?_
           refine wp_skip ?_
           refine hK12 _ _ ?_
           refine wp_region_lit ?_
           refine l_at hF rfl rfl rfl (x_move (hF.tmp 7 rfl)) ?_; clear hF; intro a hF
           refine l_at hF rfl rfl rfl (x_add (hF.tmp 27 rfl) rfl (w64 (by omega) (by omega))) ?_; clear hF; intro a hF
           refine l_at hF rfl rfl rfl (x_assign (hF.tmp 28 rfl)) ?_; clear hF; intro a hF
           refine wpList_nil ?_
           exact ⟨_, by omega, ⟨k + 1, X1, .slice A4 ss.length c4, okv, ss, (takeS s ((gbact xs (k : Int)).i)), count, (taken + 1), rfl, by omega, hX1, hq0_2.take1 he_, by omega, ((((((hF.bare.add hF 7 rfl).add hF 6 rfl).add hF 5 rfl).add hF 4 rfl).add hF 3 rfl).add hF 0 rfl), hH.sub _ (sub_cons (sub_cons (sub_cons (sub_cons (sub_nil _) 4 rfl) 100 rfl) 990 rfl) 901 rfl)⟩⟩
         ·have hc87 := hb87; try simp only [Bool.or_eq_true, Bool.and_eq_true, Bool.or_eq_false_iff, Bool.and_eq_false_iff, Bool.not_eq_true', Bool.not_eq_false', decide_eq_true_eq, decide_eq_false_iff_not, Bool.not_true, Bool.not_false] at hc87
          refine l_offg hF ((wanted_of hF rfl rfl rfl rfl).trans (by rw [hb87]; rfl)) rfl rfl ?_; clear hF; intro a hF
          refine l_offg hF ((wanted_of hF rfl rfl rfl rfl).trans (by rw [hb87]; rfl)) rfl rfl ?_; clear hF; intro a hF
          refine l_atg hF ((wanted_of hF rfl rfl rfl rfl).trans rfl) rfl rfl (x_pickF (hF.tmp 87 rfl) hb87 rfl) ?_; clear hF; intro a hF
          refine l_atg hF ((wanted_of hF rfl rfl rfl rfl).trans rfl) rfl rfl (x_move (hF.tmp 90 rfl)) ?_; clear hF; intro a hF
          refine l_offg hF ((wanted_of hF rfl rfl rfl rfl).trans rfl) rfl rfl ?_; clear hF; intro a hF
          refine l_offg hF ((wanted_of hF rfl rfl rfl rfl).trans rfl) rfl rfl ?_; clear hF; intro a hF
          refine l_offg hF ((wanted_of hF rfl rfl rfl rfl).trans rfl) rfl rfl ?_; clear hF; intro a hF
          refine l_offg hF ((wanted_of hF rfl rfl rfl rfl).trans rfl) rfl rfl ?_; clear hF; intro a hF
          refine l_offg hF ((wanted_of hF rfl rfl rfl rfl).trans rfl) rfl rfl ?_; clear hF; intro a hF
          refine l_atg hF ((wanted_of hF rfl rfl rfl rfl).trans rfl) rfl rfl (x_pickF (hF.tmp 91 rfl) rfl rfl) ?_; clear hF; intro a hF
          refine l_at hF rfl rfl rfl (x_pickF (hF.tmp 84 rfl) rfl (hF.tmp 97 rfl)) ?_; clear hF; intro a hF
          refine wpList_nil ?_
          refine hK34 _ _ ?_
          refine wp_cond_false (hF.tmp 98 rfl) ?_
          refine wp_skip ?_
          refine hK33 _ _ ?_
          refine wp_seq_k fun khK39 hK39 => ?_
          refine wp_region_lit ?_
          refine l_at hF rfl rfl rfl (x_move (hF.tmp 12 rfl)) ?_; clear hF; intro a hF
          refine l_at hF rfl rfl rfl (x_eql (hF.tmp 99 rfl) rfl) ?_; clear hF; intro a hF
          refine wpList_nil ?_
          refine hK39 _ _ ?_
          refine wp_cond_false ((hF.tmp 100 rfl).trans (by rw [hb87])) ?_
          have he_ : ¬ lookE s (gbact xs (k : Int)).i = 0 := by first | exact hc100 | exact hc87
          refine wp_skip ?_
          refine hK17 _ _ ?_
          refine wp_seq_k fun khK40 hK40 => ?_
          refine wp_region_lit ?_
          have hW_ := hq0_2.take0 he_
          refine l_at hF rfl rfl rfl (x_move (hF.tmp 5 rfl)) ?_; clear hF; intro a hF
          refine l_at hF rfl rfl rfl (x_move (hF.tmp 6 rfl)) ?_; clear hF; intro a hF
          refine l_at hF rfl rfl rfl (x_move (hF.tmp 3 rfl)) ?_; clear hF; intro a hF
          refine wpList_plain rfl fun K hK => ?_
          refine w_call hF (x_enter Tryd.func15 (by kernel_rfl) rfl (by simp only [List.map_toArray, List.map_cons, List.map_nil, hF.tmp 126 rfl] <;> rfl)) (lost_calls _ hX1 (hH.okX 100 rfl) (take_ok hq0_2.ok ((gbact xs (k : Int)).i))) rfl rfl ?_
          rintro _ w ⟨rfl, hm_⟩; refine ⟨_, rfl, ?_⟩; clear hF; intro a hF; have hH := hH.same hm_
          refine hK _ _ ?_; clear hK K
          refine l_at hF rfl rfl rfl (x_add (hF.tmp 125 rfl) (hF.tmp 127 rfl) (w64 (by have := hW_.lo; have := hW_.cnt; omega) (by have := hW_.lo; have := hW_.cnt; omega))) ?_; clear hF; intro a hF
          refine l_at hF rfl rfl rfl (x_move (hF.tmp 3 rfl)) ?_; clear hF; intro a hF
          refine wpList_plain rfl fun K hK => ?_
          refine w_call hF (x_enter Tryd.func11 (by kernel_rfl) rfl (by simp only [List.map_toArray, List.map_cons, List.map_nil, hF.tmp 129 rfl] <;> rfl)) (blen_calls _ hX1 (hH.okX 100 rfl) (take_ok hq0_2.ok ((gbact xs (k : Int)).i))) rfl rfl ?_
          rintro _ w ⟨rfl, hm_⟩; refine ⟨_, rfl, ?_⟩; clear hF; intro a hF; have hH := hH.same hm_
          refine hK _ _ ?_; clear hK K
          refine l_at hF rfl rfl rfl (x_add (hF.tmp 128 rfl) (hF.tmp 130 rfl) (w64 (by have := hW_.lo; have := hW_.cnt; omega) (by have := hW_.lo; have := hW_.cnt; omega))) ?_; clear hF; intro a hF
          refine l_at hF rfl rfl rfl (x_neq (hF.tmp 124 rfl) (hF.tmp 131 rfl)) ?_; clear hF; intro a hF
          rw [decide_eq_true hW_.cnt] at hF
          refine wpList_nil ?_
          refine hK40 _ _ ?_
          refine wp_cond_false (hF.tmp 132 rfl) ?_
          refine wp_skip ?_
          refine hK12 _ _ ?_
          refine wp_region_lit ?_
          refine l_at hF rfl rfl rfl (x_move (hF.tmp 7 rfl)) ?_; clear hF; intro a hF
          refine l_at hF rfl rfl rfl (x_add (hF.tmp 27 rfl) rfl (w64 (by omega) (by omega))) ?_; clear hF; intro a hF
          refine l_at hF rfl rfl rfl (x_assign (hF.tmp 28 rfl)) ?_; clear hF; intro a hF
          refine wpList_nil ?_
          exact ⟨_, by omega, ⟨k + 1, X1, .slice A4 ss.length c4, okv, ss, (takeS s ((gbact xs (k : Int)).i)), count, taken, rfl, by omega, hX1, hq0_2.take0 he_, by omega, ((((((hF.bare.add hF 7 rfl).add hF 6 rfl).add hF 5 rfl).add hF 4 rfl).add hF 3 rfl).add hF 0 rfl), hH.sub _ (sub_cons (sub_cons (sub_cons (sub_cons (sub_nil _) 4 rfl) 100 rfl) 990 rfl) 901 rfl)⟩⟩
      ·have hk54_11 := hc54; try simp only [Bool.or_eq_true, Bool.and_eq_true, Bool.or_eq_false_iff, Bool.and_eq_false_iff, Bool.not_eq_true', Bool.not_eq_false', decide_eq_true_eq, decide_eq_false_iff_not, Bool.not_true, Bool.not_false] at hc54
       refine wp_seq_k fun khK41 hK41 => ?_
       refine wp_region_lit ?_
       refine l_at hF rfl rfl rfl (x_eql (hF.tmp 39 rfl) rfl) ?_; clear hF; intro a hF
       refine l_at hF rfl rfl rfl (x_assign (hF.tmp 104 rfl)) ?_; clear hF; intro a hF
       refine wpList_nil ?_
       refine hK41 _ _ ?_
       refine wp_cond_split (hF.tmp 103 rfl) (fun hc103 => ?_) (fun hc103 => ?_)
       ·have hk103_12 := hc103; try simp only [Bool.or_eq_true, Bool.and_eq_true, Bool.or_eq_false_iff, Bool.and_eq_false_iff, Bool.not_eq_true', Bool.not_eq_false', decide_eq_true_eq, decide_eq_false_iff_not, Bool.not_true, Bool.not_false] at hc103
        refine wp_seq_k fun khK42 hK42 => ?_
        refine wp_region_lit ?_
        refine l_at hF rfl rfl rfl (x_move (hF.tmp 3 rfl)) ?_; clear hF; intro a hF
        refine l_at hF rfl rfl rfl (x_faddr Tryd.underlying43 rfl ty3 (by decide) (hF.tmp 8 rfl) rfl) ?_; clear hF; intro a hF
        refine l_at hF rfl rfl rfl (x_load1 ty3 (hF.tmp 106 rfl) (blk_cell (hH.at 8 rfl) 1 rfl)) ?_; clear hF; intro a hF
        refine wpList_plain rfl fun K hK => ?_
        refine w_call hF (x_enter Tryd.func16 (by kernel_rfl) rfl (by simp only [List.map_toArray, List.map_cons, List.map_nil, hF.tmp 105 rfl, hF.tmp 107 rfl] <;> rfl)) (twice_calls _ (hH.holds 990 _ rfl) hq0_1 (hH.okX 100 rfl) hq0_2.ok (fun k h hx => hH.sep 100 990 _ _ (by decide) rfl rfl k hx (.inr h)) ((gbact xs (k : Int)).i)) rfl rfl ?_
        rintro _ w ⟨X1, rfl, hX1, hg_⟩; refine ⟨_, rfl, ?_⟩; clear hF; intro a hF; have hH := hH.grew 100 rfl hg_ (fun k hk => hk.elim)
        refine hK _ _ ?_; clear hK K
        refine l_at hF rfl rfl rfl (x_neq (hF.tmp 108 rfl) rfl) ?_; clear hF; intro a hF
        refine wpList_nil ?_
        refine hK42 _ _ ?_
        refine wp_cond_split (hF.tmp 109 rfl) (fun hc109 => ?_) (fun hc109 => ?_)
        ·have hk109_13 := hc109; try simp only [Bool.or_eq_true, Bool.and_eq_true, Bool.or_eq_false_iff, Bool.and_eq_false_iff, Bool.not_eq_true', Bool.not_eq_false', decide_eq_true_eq, decide_eq_false_iff_not, Bool.not_true, Bool.not_false] at hc109
         have he_ := hc109
         refine wp_region_lit ?_
         refine l_at hF rfl rfl rfl (x_move (hF.tmp 5 rfl)) ?_; clear hF; intro a hF
         refine l_at hF rfl rfl rfl (x_add (hF.tmp 110 rfl) rfl (w64 (by have := hq0_2.lo; have := hq0_2.cnt; omega) (by have := hq0_2.lo; have := hq0_2.cnt; omega))) ?_; clear hF; intro a hF
         refine l_at hF rfl rfl rfl (x_assign (hF.tmp 111 rfl)) ?_; clear hF; intro a hF
         refine wpList_nil ?_
         refine hK17 _ _ ?_
         refine wp_seq_k fun khK43 hK43 => ?_
         refine wp_region_lit ?_
         have hW_ := hq0_2.twice1 (by omega) he_
         refine l_at hF rfl rfl rfl (x_move (hF.tmp 5 rfl)) ?_; clear hF; intro a hF
         refine l_at hF rfl rfl rfl (x_move (hF.tmp 6 rfl)) ?_; clear hF; intro a hF
         refine l_at hF rfl rfl rfl (x_move (hF.tmp 3 rfl)) ?_; clear hF; intro a hF
         refine wpList_plain rfl fun K hK => ?_
         refine w_call hF (x_enter Tryd.func15 (by kernel_rfl) rfl (by simp only [List.map_toArray, List.map_cons, List.map_nil, hF.tmp 126 rfl] <;> rfl)) (lost_calls _ hX1 (hH.okX 100 rfl) (twice_ok hq0_2.ok ((gbact xs (k : Int)).i))) rfl rfl ?_
         rintro _ w ⟨rfl, hm_⟩; refine ⟨_, rfl, ?_⟩; clear hF; intro a hF; have hH := hH.same hm_
         refine hK _ _ ?_; clear hK K
         refine l_at hF rfl rfl rfl (x_add (hF.tmp 125 rfl) (hF.tmp 127 rfl) (w64 (by have := hW_.lo; have := hW_.cnt; omega) (by have := hW_.lo; have := hW_.cnt; omega))) ?_; clear hF; intro a hF
         refine l_at hF rfl rfl rfl (x_move (hF.tmp 3 rfl)) ?_; clear hF; intro a hF
         refine wpList_plain rfl fun K hK => ?_
         refine w_call hF (x_enter Tryd.func11 (by kernel_rfl) rfl (by simp only [List.map_toArray, List.map_cons, List.map_nil, hF.tmp 129 rfl] <;> rfl)) (blen_calls _ hX1 (hH.okX 100 rfl) (twice_ok hq0_2.ok ((gbact xs (k : Int)).i))) rfl rfl ?_
         rintro _ w ⟨rfl, hm_⟩; refine ⟨_, rfl, ?_⟩; clear hF; intro a hF; have hH := hH.same hm_
         refine hK _ _ ?_; clear hK K
         refine l_at hF rfl rfl rfl (x_add (hF.tmp 128 rfl) (hF.tmp 130 rfl) (w64 (by have := hW_.lo; have := hW_.cnt; omega) (by have := hW_.lo; have := hW_.cnt; omega))) ?_; clear hF; intro a hF
         refine l_at hF rfl rfl rfl (x_neq (hF.tmp 124 rfl) (hF.tmp 131 rfl)) ?_; clear hF; intro a hF
         rw [decide_eq_true hW_.cnt] at hF
         refine wpList_nil ?_
         refine hK43 _ _ ?_
         refine wp_cond_false (hF.tmp 132 rfl) ?_
         refine wp_skip ?_
         refine hK12 _ _ ?_
         refine wp_region_lit ?_
         refine l_at hF rfl rfl rfl (x_move (hF.tmp 7 rfl)) ?_; clear hF; intro a hF
         refine l_at hF rfl rfl rfl (x_add (hF.tmp 27 rfl) rfl (w64 (by omega) (by omega))) ?_; clear hF; intro a hF
         refine l_at hF rfl rfl rfl (x_assign (hF.tmp 28 rfl)) ?_; clear hF; intro a hF
         refine wpList_nil ?_
         exact ⟨_, by omega, ⟨k + 1, X1, v4, okv, ss, (twiceS s ((gbact xs (k : Int)).i)), (count + 1), taken, rfl, by omega, hX1, hq0_2.twice1 (by omega) he_, by omega, ((((((hF.bare.add hF 7 rfl).add hF 6 rfl).add hF 5 rfl).add hF 4 rfl).add hF 3 rfl).add hF 0 rfl), hH.sub _ (sub_cons (sub_cons (sub_cons (sub_cons (sub_nil _) 4 rfl) 100 rfl) 990 rfl) 901 rfl)⟩⟩
        ·have hk109_14 := hc109; try simp only [Bool.or_eq_true, Bool.and_eq_true, Bool.or_eq_false_iff, Bool.and_eq_false_iff, Bool.not_eq_true', Bool.not_eq_false', decide_eq_true_eq, decide_eq_false_iff_not, Bool.not_true, Bool.not_false] at hc109
         have he_ := hc109
         refine wp_skip ?_
         refine hK17 _ _ ?_
         refine wp_seq_k fun khK44 hK44 => ?_
         refine wp_region_lit ?_
         have hW_ := hq0_2.twice0 he_
         refine l_at hF rfl rfl rfl (x_move (hF.tmp 5 rfl)) ?_; clear hF; intro a hF
         refine l_at hF rfl rfl rfl (x_move (hF.tmp 6 rfl)) ?_; clear hF; intro a hF
         refine l_at hF rfl rfl rfl (x_move (hF.tmp 3 rfl)) ?_; clear hF; intro a hF
         refine wpList_plain rfl fun K hK => ?_
         refine w_call hF (x_enter Tryd.func15 (by kernel_rfl) rfl (by simp only [List.map_toArray, List.map_cons, List.map_nil, hF.tmp 126 rfl] <;> rfl)) (lost_calls _ hX1 (hH.okX 100 rfl) (twice_ok hq0_2.ok ((gbact xs (k : Int)).i))) rfl rfl ?_
         rintro _ w ⟨rfl, hm_⟩; refine ⟨_, rfl, ?_⟩; clear hF; intro a hF; have hH := hH.same hm_
         refine hK _ _ ?_; clear hK K
         refine l_at hF rfl rfl rfl (x_add (hF.tmp 125 rfl) (hF.tmp 127 rfl) (w64 (by have := hW_.lo; have := hW_.cnt; omega) (by have := hW_.lo; have := hW_.cnt; omega))) ?_; clear hF; intro a hF
         refine l_at hF rfl rfl rfl (x_move (hF.tmp 3 rfl)) ?_; clear hF; intro a hF
         refine wpList_plain rfl fun K hK => ?_
         refine w_call hF (x_enter Tryd.func11 (by kernel_rfl) rfl (by simp only [List.map_toArray, List.map_cons, List.map_nil, hF.tmp 129 rfl] <;> rfl)) (blen_calls _ hX1 (hH.okX 100 rfl) (twice_ok hq0_2.ok ((gbact xs (k : Int)).i))) rfl rfl ?_
         rintro _ w ⟨rfl, hm_⟩; refine ⟨_, rfl, ?_⟩; clear hF; intro a hF; have hH := hH.same hm_
         refine hK _ _ ?_; clear hK K
         refine l_at hF rfl rfl rfl (x_add (hF.tmp 128 rfl) (hF.tmp 130 rfl) (w64 (by have := hW_.lo; have := hW_.cnt; omega) (by have := hW_.lo; have := hW_.cnt; omega))) ?_; clear hF; intro a hF
         refine l_at hF rfl rfl rfl (x_neq (hF.tmp 124 rfl) (hF.tmp 131 rfl)) ?_; clear hF; intro a hF
         rw [decide_eq_true hW_.cnt] at hF
         refine wpList_nil ?_
         refine hK44 _ _ ?_
         refine wp_cond_false (hF.tmp 132 rfl) ?_
         refine wp_skip ?_
         refine hK12 _ _ ?_
         refine wp_region_lit ?_
         refine l_at hF rfl rfl rfl (x_move (hF.tmp 7 rfl)) ?_; clear hF; intro a hF
         refine l_at hF rfl rfl rfl (x_add (hF.tmp 27 rfl) rfl (w64 (by omega) (by omega))) ?_; clear hF; intro a hF
         refine l_at hF rfl rfl rfl (x_assign (hF.tmp 28 rfl)) ?_; clear hF; intro a hF
         refine wpList_nil ?_
         exact ⟨_, by omega, ⟨k + 1, X1, v4, okv, ss, (twiceS s ((gbact xs (k : Int)).i)), count, taken, rfl, by omega, hX1, hq0_2.twice0 he_, by omega, ((((((hF.bare.add hF 7 rfl).add hF 6 rfl).add hF 5 rfl).add hF 4 rfl).add hF 3 rfl).add hF 0 rfl), hH.sub _ (sub_cons (sub_cons (sub_cons (sub_cons (sub_nil _) 4 rfl) 100 rfl) 990 rfl) 901 rfl)⟩⟩
       ·have hk103_15 := hc103; try simp only [Bool.or_eq_true, Bool.and_eq_true, Bool.or_eq_false_iff, Bool.and_eq_false_iff, Bool.not_eq_true', Bool.not_eq_false', decide_eq_true_eq, decide_eq_false_iff_not, Bool.not_true, Bool.not_false] at hc103
        refine wp_seq_k fun khK45 hK45 => ?_
        refine wp_region_lit ?_
        refine l_at hF rfl rfl rfl (x_eql (hF.tmp 39 rfl) rfl) ?_; clear hF; intro a hF
        refine l_at hF rfl rfl rfl (x_assign (hF.tmp 113 rfl)) ?_; clear hF; intro a hF
        refine wpList_nil ?_
        refine hK45 _ _ ?_
        refine wp_cond_split (hF.tmp 112 rfl) (fun hc112 => ?_) (fun hc112 => ?_)
        ·have hk112_16 := hc112; try simp only [Bool.or_eq_true, Bool.and_eq_true, Bool.or_eq_false_iff, Bool.and_eq_false_iff, Bool.not_eq_true', Bool.not_eq_false', decide_eq_true_eq, decide_eq_false_iff_not, Bool.not_true, Bool.not_false] at hc112
         refine wp_region_lit ?_
         refine l_at hF rfl rfl rfl (x_move (hF.tmp 3 rfl)) ?_; clear hF; intro a hF
         refine l_at hF rfl rfl rfl (x_faddr Tryd.underlying43 rfl ty3 (by decide) (hF.tmp 8 rfl) rfl) ?_; clear hF; intro a hF
         refine l_at hF rfl rfl rfl (x_load1 ty3 (hF.tmp 115 rfl) (blk_cell (hH.at 8 rfl) 1 rfl)) ?_; clear hF; intro a hF
         refine wpList_plain rfl fun K hK => ?_
         refine w_call hF (x_enter Tryd.func18 (by kernel_rfl) rfl (by simp only [List.map_toArray, List.map_cons, List.map_nil, hF.tmp 114 rfl, hF.tmp 116 rfl] <;> rfl)) (lose_calls _ (hH.holds 990 _ rfl) hq0_1 (hH.okX 100 rfl) hq0_2.ok (fun k h hx => hH.sep 100 990 _ _ (by decide) rfl rfl k hx (.inr h)) ((gbact xs (k : Int)).i)) rfl rfl ?_
         rintro _ w ⟨X1, rfl, hX1, hg_⟩; refine ⟨_, rfl, ?_⟩; clear hF; intro a hF; have hH := hH.grew 100 rfl hg_ (fun k hk => hk.elim)
         refine hK _ _ ?_; clear hK K
         refine wpList_nil ?_
         refine hK17 _ _ ?_
         refine wp_seq_k fun khK46 hK46 => ?_
         refine wp_region_lit ?_
         have hW_ := hq0_2.lose (by omega) (gbact xs (k : Int)).i
         refine l_at hF rfl rfl rfl (x_move (hF.tmp 5 rfl)) ?_; clear hF; intro a hF
         refine l_at hF rfl rfl rfl (x_move (hF.tmp 6 rfl)) ?_; clear hF; intro a hF
         refine l_at hF rfl rfl rfl (x_move (hF.tmp 3 rfl)) ?_; clear hF; intro a hF
         refine wpList_plain rfl fun K hK => ?_
         refine w_call hF (x_enter Tryd.func15 (by kernel_rfl) rfl (by simp only [List.map_toArray, List.map_cons, List.map_nil, hF.tmp 126 rfl] <;> rfl)) (lost_calls _ hX1 (hH.okX 100 rfl) (lose_ok hq0_2.ok ((gbact xs (k : Int)).i))) rfl rfl ?_
         rintro _ w ⟨rfl, hm_⟩; refine ⟨_, rfl, ?_⟩; clear hF; intro a hF; have hH := hH.same hm_
         refine hK _ _ ?_; clear hK K
         refine l_at hF rfl rfl rfl (x_add (hF.tmp 125 rfl) (hF.tmp 127 rfl) (w64 (by have := hW_.lo; have := hW_.cnt; omega) (by have := hW_.lo; have := hW_.cnt; omega))) ?_; clear hF; intro a hF
         refine l_at hF rfl rfl rfl (x_move (hF.tmp 3 rfl)) ?_; clear hF; intro a hF
         refine wpList_plain rfl fun K hK => ?_
         refine w_call hF (x_enter Tryd.func11 (by kernel_rfl) rfl (by simp only [List.map_toArray, List.map_cons, List.map_nil, hF.tmp 129 rfl] <;> rfl)) (blen_calls _ hX1 (hH.okX 100 rfl) (lose_ok hq0_2.ok ((gbact xs (k : Int)).i))) rfl rfl ?_
         rintro _ w ⟨rfl, hm_⟩; refine ⟨_, rfl, ?_⟩; clear hF; intro a hF; have hH := hH.same hm_
         refine hK _ _ ?_; clear hK K
         refine l_at hF rfl rfl rfl (x_add (hF.tmp 128 rfl) (hF.tmp 130 rfl) (w64 (by have := hW_.lo; have := hW_.cnt; omega) (by have := hW_.lo; have := hW_.cnt; omega))) ?_; clear hF; intro a hF
         refine l_at hF rfl rfl rfl (x_neq (hF.tmp 124 rfl) (hF.tmp 131 rfl)) ?_; clear hF; intro a hF
         rw [decide_eq_true hW_.cnt] at hF
         refine wpList_nil ?_
         refine hK46 _ _ ?_
         refine wp_cond_false (hF.tmp 132 rfl) ?_
         refine wp_skip ?_
         refine hK12 _ _ ?_
         refine wp_region_lit ?_
         refine l_at hF rfl rfl rfl (x_move (hF.tmp 7 rfl)) ?_; clear hF; intro a hF
         refine l_at hF rfl rfl rfl (x_add (hF.tmp 27 rfl) rfl (w64 (by omega) (by omega))) ?_; clear hF; intro a hF
         refine l_at hF rfl rfl rfl (x_assign (hF.tmp 28 rfl)) ?_; clear hF; intro a hF
         refine wpList_nil ?_
         exact ⟨_, by omega, ⟨k + 1, X1, v4, okv, ss, (loseS s ((gbact xs (k : Int)).i)), count, taken, rfl, by omega, hX1, hq0_2.lose (by omega) (gbact xs (k : Int)).i, by omega, ((((((hF.bare.add hF 7 rfl).add hF 6 rfl).add hF 5 rfl).add hF 4 rfl).add hF 3 rfl).add hF 0 rfl), hH.sub _ (sub_cons (sub_cons (sub_cons (sub_cons (sub_nil _) 4 rfl) 100 rfl) 990 rfl) 901 rfl)⟩⟩
        ·have hk112_17 := hc112; try simp only [Bool.or_eq_true, Bool.and_eq_true, Bool.or_eq_false_iff, Bool.and_eq_false_iff, Bool.not_eq_true', Bool.not_eq_false', decide_eq_true_eq, decide_eq_false_iff_not, Bool.not_true, Bool.not_false] at hc112
         refine wp_seq_k fun khK47 hK47 => ?_
         refine wp_region_lit ?_
         refine l_at hF rfl rfl rfl (x_eql (hF.tmp 39 rfl) rfl) ?_; clear hF; intro a hF
         refine l_at hF rfl rfl rfl (x_assign (hF.tmp 119 rfl)) ?_; clear hF; intro a hF
         refine wpList_nil ?_
         refine hK47 _ _ ?_
         refine wp_cond_split (hF.tmp 118 rfl) (fun hc118 => ?_) (fun hc118 => ?_)
         ·have hk118_18 := hc118; try simp only [Bool.or_eq_true, Bool.and_eq_true, Bool.or_eq_false_iff, Bool.and_eq_false_iff, Bool.not_eq_true', Bool.not_eq_false', decide_eq_true_eq, decide_eq_false_iff_not, Bool.not_true, Bool.not_false] at hc118
          refine wp_region_lit ?_
          refine l_at hF rfl rfl rfl (x_move (hF.tmp 3 rfl)) ?_; clear hF; intro a hF
          refine l_at hF rfl rfl rfl (x_faddr Tryd.underlying43 rfl ty3 (by decide) (hF.tmp 8 rfl) rfl) ?_; clear hF; intro a hF
          refine l_at hF rfl rfl rfl (x_load1 ty3 (hF.tmp 121 rfl) (blk_cell (hH.at 8 rfl) 1 rfl)) ?_; clear hF; intro a hF
          refine wpList_plain rfl fun K hK => ?_
          refine w_call hF (x_enter Tryd.func10 (by kernel_rfl) rfl (by simp only [List.map_toArray, List.map_cons, List.map_nil, hF.tmp 120 rfl, hF.tmp 122 rfl] <;> rfl)) (restart_calls _  hq0_1 (hH.okX 100 rfl) hq0_2.ok  ((gbact xs (k : Int)).i)) rfl rfl ?_
          rintro _ w ⟨X1, rfl, hX1, hg_⟩; refine ⟨_, rfl, ?_⟩; clear hF; intro a hF; have hH := hH.grew 100 rfl hg_ (fun k hk => hk.elim)
          refine hK _ _ ?_; clear hK K
          refine wpList_nil ?_
          refine hK17 _ _ ?_
          refine wp_seq_k fun khK48 hK48 => ?_
          refine wp_region_lit ?_
          have hW_ := hq0_2.rest (by omega) (gbact xs (k : Int)).i
          refine l_at hF rfl rfl rfl (x_move (hF.tmp 5 rfl)) ?_; clear hF; intro a hF
          refine l_at hF rfl rfl rfl (x_move (hF.tmp 6 rfl)) ?_; clear hF; intro a hF
          refine l_at hF rfl rfl rfl (x_move (hF.tmp 3 rfl)) ?_; clear hF; intro a hF
          refine wpList_plain rfl fun K hK => ?_
          refine w_call hF (x_enter Tryd.func15 (by kernel_rfl) rfl (by simp only [List.map_toArray, List.map_cons, List.map_nil, hF.tmp 126 rfl] <;> rfl)) (lost_calls _ hX1 (hH.okX 100 rfl) (rest_ok hq0_2.ok ((gbact xs (k : Int)).i))) rfl rfl ?_
          rintro _ w ⟨rfl, hm_⟩; refine ⟨_, rfl, ?_⟩; clear hF; intro a hF; have hH := hH.same hm_
          refine hK _ _ ?_; clear hK K
          refine l_at hF rfl rfl rfl (x_add (hF.tmp 125 rfl) (hF.tmp 127 rfl) (w64 (by have := hW_.lo; have := hW_.cnt; omega) (by have := hW_.lo; have := hW_.cnt; omega))) ?_; clear hF; intro a hF
          refine l_at hF rfl rfl rfl (x_move (hF.tmp 3 rfl)) ?_; clear hF; intro a hF
          refine wpList_plain rfl fun K hK => ?_
          refine w_call hF (x_enter Tryd.func11 (by kernel_rfl) rfl (by simp only [List.map_toArray, List.map_cons, List.map_nil, hF.tmp 129 rfl] <;> rfl)) (blen_calls _ hX1 (hH.okX 100 rfl) (rest_ok hq0_2.ok ((gbact xs (k : Int)).i))) rfl rfl ?_
          rintro _ w ⟨rfl, hm_⟩; refine ⟨_, rfl, ?_⟩; clear hF; intro a hF; have hH := hH.same hm_
          refine hK _ _ ?_; clear hK K
          refine l_at hF rfl rfl rfl (x_add (hF.tmp 128 rfl) (hF.tmp 130 rfl) (w64 (by have := hW_.lo; have := hW_.cnt; omega) (by have := hW_.lo; have := hW_.cnt; omega))) ?_; clear hF; intro a hF
          refine l_at hF rfl rfl rfl (x_neq (hF.tmp 124 rfl) (hF.tmp 131 rfl)) ?_; clear hF; intro a hF
          rw [decide_eq_true hW_.cnt] at hF
          refine wpList_nil ?_
          refine hK48 _ _ ?_
          refine wp_cond_false (hF.tmp 132 rfl) ?_
          refine wp_skip ?_
          refine hK12 _ _ ?_
          refine wp_region_lit ?_
          refine l_at hF rfl rfl rfl (x_move (hF.tmp 7 rfl)) ?_; clear hF; intro a hF
          refine l_at hF rfl rfl rfl (x_add (hF.tmp 27 rfl) rfl (w64 (by omega) (by omega))) ?_; clear hF; intro a hF
          refine l_at hF rfl rfl rfl (x_assign (hF.tmp 28 rfl)) ?_; clear hF; intro a hF
          refine wpList_nil ?_
          exact ⟨_, by omega, ⟨k + 1, X1, v4, okv, ss, (rstS s ((gbact xs (k : Int)).i)), count, taken, rfl, by omega, hX1, hq0_2.rest (by omega) (gbact xs (k : Int)).i, by omega, ((((((hF.bare.add hF 7 rfl).add hF 6 rfl).add hF 5 rfl).add hF 4 rfl).add hF 3 rfl).add hF 0 rfl), hH.sub _ (sub_cons (sub_cons (sub_cons (sub_cons (sub_nil _) 4 rfl) 100 rfl) 990 rfl) 901 rfl)⟩⟩
         ·have hk118_19 := hc118; try simp only [Bool.or_eq_true, Bool.and_eq_true, Bool.or_eq_false_iff, Bool.and_eq_false_iff, Bool.not_eq_true', Bool.not_eq_false', decide_eq_true_eq, decide_eq_false_iff_not, Bool.not_true, Bool.not_false] at hc118
          refine wp_skip ?_
          refine hK17 _ _ ?_
          refine wp_seq_k fun khK49 hK49 => ?_
          refine wp_region_lit ?_
          have hW_ := hq0_2.skip
          refine l_at hF rfl rfl rfl (x_move (hF.tmp 5 rfl)) ?_; clear hF; intro a hF
          refine l_at hF rfl rfl rfl (x_move (hF.tmp 6 rfl)) ?_; clear hF; intro a hF
          refine l_at hF rfl rfl rfl (x_move (hF.tmp 3 rfl)) ?_; clear hF; intro a hF
          refine wpList_plain rfl fun K hK => ?_
          refine w_call hF (x_enter Tryd.func15 (by kernel_rfl) rfl (by simp only [List.map_toArray, List.map_cons, List.map_nil, hF.tmp 126 rfl] <;> rfl)) (lost_calls _ hq0_1 (hH.okX 100 rfl) hq0_2.ok) rfl rfl ?_
          rintro _ w ⟨rfl, hm_⟩; refine ⟨_, rfl, ?_⟩; clear hF; intro a hF; have hH := hH.same hm_
          refine hK _ _ ?_; clear hK K
          refine l_at hF rfl rfl rfl (x_add (hF.tmp 125 rfl) (hF.tmp 127 rfl) (w64 (by have := hW_.lo; have := hW_.cnt; omega) (by have := hW_.lo; have := hW_.cnt; omega))) ?_; clear hF; intro a hF
          refine l_at hF rfl rfl rfl (x_move (hF.tmp 3 rfl)) ?_; clear hF; intro a hF
          refine wpList_plain rfl fun K hK => ?_
          refine w_call hF (x_enter Tryd.func11 (by kernel_rfl) rfl (by simp only [List.map_toArray, List.map_cons, List.map_nil, hF.tmp 129 rfl] <;> rfl)) (blen_calls _ hq0_1 (hH.okX 100 rfl) hq0_2.ok) rfl rfl ?_
          rintro _ w ⟨rfl, hm_⟩; refine ⟨_, rfl, ?_⟩; clear hF; intro a hF; have hH := hH.same hm_
          refine hK _ _ ?_; clear hK K
          refine l_at hF rfl rfl rfl (x_add (hF.tmp 128 rfl) (hF.tmp 130 rfl) (w64 (by have := hW_.lo; have := hW_.cnt; omega) (by have := hW_.lo; have := hW_.cnt; omega))) ?_; clear hF; intro a hF
          refine l_at hF rfl rfl rfl (x_neq (hF.tmp 124 rfl) (hF.tmp 131 rfl)) ?_; clear hF; intro a hF
          rw [decide_eq_true hW_.cnt] at hF
          refine wpList_nil ?_
          refine hK49 _ _ ?_
          refine wp_cond_false (hF.tmp 132 rfl) ?_
          refine wp_skip ?_
          refine hK12 _ _ ?_
          refine wp_region_lit ?_
          refine l_at hF rfl rfl rfl (x_move (hF.tmp 7 rfl)) ?_; clear hF; intro a hF
          refine l_at hF rfl rfl rfl (x_add (hF.tmp 27 rfl) rfl (w64 (by omega) (by omega))) ?_; clear hF; intro a hF
          refine l_at hF rfl rfl rfl (x_assign (hF.tmp 28 rfl)) ?_; clear hF; intro a hF
          refine wpList_nil ?_
          exact ⟨_, by omega, ⟨k + 1, X, v4, okv, ss, s, count, taken, rfl, by omega, hq0_1, hq0_2.skip, by omega, ((((((hF.bare.add hF 7 rfl).add hF 6 rfl).add hF 5 rfl).add hF 4 rfl).add hF 3 rfl).add hF 0 rfl), hH.sub _ (sub_cons (sub_cons (sub_cons (sub_cons (sub_nil _) 4 rfl) 100 rfl) 990 rfl) 901 rfl)⟩⟩
   ·have hk26_20 := hc26; try simp only [Bool.or_eq_true, Bool.and_eq_true, Bool.or_eq_false_iff, Bool.and_eq_false_iff, Bool.not_eq_true', Bool.not_eq_false', decide_eq_true_eq, decide_eq_false_iff_not, Bool.not_true, Bool.not_false] at hc26
    refine wp_exit ?_
    refine hK8 _ _ ?_
    refine wp_seq_k fun khK50 hK50 => ?_
    refine wp_region_lit ?_
    refine wpList_plain rfl fun K hK => ?_
    refine w_call hF (x_enter Tryd.func14 (by kernel_rfl) rfl (by simp only [List.map_toArray, List.map_cons, List.map_nil] <;> rfl)) (balive_calls _ (hH.holds 990 _ rfl)) rfl rfl ?_
    rintro _ w ⟨rfl, hm_⟩; refine ⟨_, rfl, ?_⟩; clear hF; intro a hF; have hH := hH.same hm_
    refine hK _ _ ?_; clear hK K
    refine l_at hF rfl rfl rfl (x_assign (hF.tmp 133 rfl)) ?_; clear hF; intro a hF
    refine wpList_nil ?_
    refine hK50 _ _ ?_
    refine wp_ret ?_
    try simp only [Exit.then, Exit.inBlock]
    exact fin_ret hF (res1 (v := .bool true) hF rfl rfl) ⟨rfl, hH.mods⟩
  ·have hc23 := hb23; try simp only [Bool.or_eq_true, Bool.and_eq_true, Bool.or_eq_false_iff, Bool.and_eq_false_iff, Bool.not_eq_true', Bool.not_eq_false', decide_eq_true_eq, decide_eq_false_iff_not, Bool.not_true, Bool.not_false] at hc23
   refine l_offg hF ((wanted_of hF rfl rfl rfl rfl).trans (by rw [hb23]; rfl)) rfl rfl ?_; clear hF; intro a hF
   refine l_offg hF ((wanted_of hF rfl rfl rfl rfl).trans (by rw [hb23]; rfl)) rfl rfl ?_; clear hF; intro a hF
   refine l_at hF rfl rfl rfl (x_pickF (hF.tmp 23 rfl) hb23 rfl) ?_; clear hF; intro a hF
   refine wpList_nil ?_
   refine hK11 _ _ ?_
   refine wp_cond_false (hF.tmp 26 rfl) ?_
   refine wp_exit ?_
   refine hK8 _ _ ?_
   refine wp_seq_k fun khK51 hK51 => ?_
   refine wp_region_lit ?_
   refine wpList_plain rfl fun K hK => ?_
   refine w_call hF (x_enter Tryd.func14 (by kernel_rfl) rfl (by simp only [List.map_toArray, List.map_cons, List.map_nil] <;> rfl)) (balive_calls _ (hH.holds 990 _ rfl)) rfl rfl ?_
   rintro _ w ⟨rfl, hm_⟩; refine ⟨_, rfl, ?_⟩; clear hF; intro a hF; have hH := hH.same hm_
   refine hK _ _ ?_; clear hK K
   refine l_at hF rfl rfl rfl (x_assign (hF.tmp 133 rfl)) ?_; clear hF; intro a hF
   refine wpList_nil ?_
   refine hK51 _ _ ?_
   refine wp_ret ?_
   try simp only [Exit.then, Exit.inBlock]
   exact fin_ret hF (res1 (v := .bool true) hF rfl rfl) ⟨rfl, hH.mods⟩
end Go.Proofs.YtfocpadeflpabaaDoor.Act
