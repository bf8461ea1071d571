/- The walks of the bag. -/
import Derived.Test.YtfocpadeflpabaaDoorMdcAZw
import Derived.Test.YtfocpadeflpabaaDoorBagDZw
set_option linter.unusedVariables false
set_option linter.unusedSimpArgs false
namespace Go.Proofs.YtfocpadeflpabaaDoor.Act
open Go.RowKit Go.Proofs.YtfocpadeflpabaaDoor.Sx Go.Proofs.YtfocpadeflpabaaDoor.Cod Go.Proofs.YtfocpadeflpabaaDoor.Num
theorem ty48 : TyI Tryd.prog 48 (.slice none 0 0) 1 24 false := ⟨by kernel_rfl, _, Tryd.underlying48, rfl⟩
theorem ty49 : TyI Tryd.prog 49 (.agg #[.int .i64 0, .int .i64 0, .int .i64 0, .int .i64 0, .int .i64 0, .int .i64 0, .int .i64 0, .int .i64 0]) 8 64 true := ⟨by kernel_rfl, _, Tryd.underlying49, rfl⟩
theorem ty51 : TyI Tryd.prog 51 (.agg #[.slice none 0 0, .int .i64 0, .int .i64 0, .int .i64 0, .int .i64 0, .int .i64 0, .int .i64 0, .int .i64 0, .int .i64 0, .int .i64 0]) 10 96 true := ⟨by kernel_rfl, _, Tryd.underlying51, rfl⟩
theorem ty58 : TyI Tryd.prog 58 (.agg #[.slice none 0 0, .int .i64 0]) 2 32 true := ⟨by kernel_rfl, _, Tryd.underlying58, rfl⟩
set_option maxRecDepth 100000 in
set_option maxHeartbeats 1000000 in
theorem del_calls (w0 : World) {ok : Nat → Prop} {A : Option Addr} {xs : List WayD} {c : Nat} (hr : Row WayE 58 w0 ok (.slice A xs.length c) xs) (hinb : ∀ k, ok k → k < w0.heap.size) (hslf : ∀ k, (Value.slice A xs.length c).ownBlock = some k → ¬ ok k) {i : Nat} (hi : i + 1 ≤ xs.length) : Calls Tryd.prog 23 #[.slice A xs.length c, .int .i64 (i : Int), .int .i64 ((i : Int) + 1)] w0 fun e w' => e = .returned (.slice A (xs.take i ++ xs.drop (i + 1)).length c) ∧ Mods (fun k => (Value.slice A xs.length c).ownBlock = some k) w0 w' ∧ Row WayE 58 w' ok (.slice A (xs.take i ++ xs.drop (i + 1)).length c) (xs.take i ++ xs.drop (i + 1)) := by
 have hlc : xs.length ≤ c := (Row.rd hr (fun k h _ => .inl h) (fun k h => .inr h) : Rd WayE w0 (fun k => ok k ∨ (Value.slice A xs.length c).ownBlock = some k) A xs c).1
 have hlm : xs.length ≤ maxLen := (Row.rd hr (fun k h _ => .inl h) (fun k h => .inr h) : Rd WayE w0 (fun k => ok k ∨ (Value.slice A xs.length c).ownBlock = some k) A xs c).le
 unfold maxLen at hlm
 have hlen : (xs.take i ++ xs.drop (i + 1)).length = xs.length - 1 := by rw [List.length_append, List.length_take, List.length_drop]; omega
 have hroom : (xs.take i ++ xs.drop (i + 1)).length + 1 ≤ c := by rw [hlen]; omega
 refine calls_of_wp Tryd.func23 rfl ?_
 have hF := Fr.enter #[.slice A xs.length c, .int .i64 (i : Int), .int .i64 ((i : Int) + 1)] 33 (slotsOf [.slice A xs.length c, .int .i64 (i : Int), .int .i64 ((i : Int) + 1)] 0) (Nat.le_of_ble_eq_true rfl) (fun i v h => by have h2 := (get_slotsOf _ 0 i v h).2; simpa only [List.getElem?_toArray, Nat.sub_zero] using h2)
 rw [Tryd.ntmps23]
 revert hF; generalize (⟨(#[.slice A xs.length c, .int .i64 (i : Int), .int .i64 ((i : Int) + 1)] : Array Value) ++ Array.replicate (33 - (#[.slice A xs.length c, .int .i64 (i : Int), .int .i64 ((i : Int) + 1)] : Array Value).size) undef, []⟩ : Act) = a; intro hF
 have hH := Hp.ownrow 2 hr hinb hslf
 refine wp_seq_k fun khK1 hK1 => ?_
 refine wp_region_lit ?_
 refine l_at hF rfl rfl rfl (x_assign rfl) ?_; clear hF; intro a hF
 refine wpList_nil ?_
 refine hK1 _ _ ?_
 refine wp_seq_k fun khK2 hK2 => ?_
 refine wp_region_lit ?_
 refine l_at hF rfl rfl rfl (x_move (hF.tmp 0 rfl)) ?_; clear hF; intro a hF
 refine l_at hF rfl rfl rfl (x_move (hF.tmp 1 rfl)) ?_; clear hF; intro a hF
 refine l_at hF rfl rfl rfl (x_move (hF.tmp 2 rfl)) ?_; clear hF; intro a hF
 refine l_at hF rfl rfl rfl (x_move (hF.tmp 0 rfl)) ?_; clear hF; intro a hF
 refine l_at hF rfl rfl rfl (x_len_slice Tryd.underlying48 (hF.tmp 11 rfl)) ?_; clear hF; intro a hF
 refine l_at hF rfl rfl rfl (x_slice3l (E := WayE) Tryd.underlying48 ty58 (hF.tmp 8 rfl) (hF.tmp 9 rfl) (hF.tmp 10 rfl) (hF.tmp 12 rfl) (by omega) (by omega) (by omega) (by have := hlc; omega)) ?_; clear hF; intro a hF
 refine wpList_nil ?_
 refine hK2 _ _ ?_
 refine wp_seq_k fun khK3 hK3 => ?_
 refine wp_seq_k fun khK4 hK4 => ?_
 refine wp_region_lit ?_
 refine l_at hF rfl rfl rfl (x_move (hF.tmp 1 rfl)) ?_; clear hF; intro a hF
 refine l_at hF rfl rfl rfl (x_move (hF.tmp 2 rfl)) ?_; clear hF; intro a hF
 refine l_at hF rfl rfl rfl (x_eql (hF.tmp 14 rfl) (hF.tmp 15 rfl)) ?_; clear hF; intro a hF
 refine wpList_nil ?_
 refine hK4 _ _ ?_
 refine wp_cond_false ((hF.tmp 16 rfl).trans (by rw [decide_eq_false (by omega)])) ?_
 refine wp_skip ?_
 refine hK3 _ _ ?_
 refine wp_seq_k fun khK5 hK5 => ?_
 refine wp_region_lit ?_
 refine l_at hF rfl rfl rfl (x_move (hF.tmp 0 rfl)) ?_; clear hF; intro a hF
 refine l_at hF rfl rfl rfl (x_len_slice Tryd.underlying48 (hF.tmp 18 rfl)) ?_; clear hF; intro a hF
 refine l_at hF rfl rfl rfl (x_assign (hF.tmp 19 rfl)) ?_; clear hF; intro a hF
 refine wpList_nil ?_
 refine hK5 _ _ ?_
 refine wp_seq_k fun khK6 hK6 => ?_
 refine r_start [] (by kernel_rfl) hH fun hH => ?_
 have hS : SL [] _ := SL.of hH (sub_nil _)
 refine r_take 0 hF rfl rfl rfl (by kernel_rfl) (by kernel_rfl) (by kernel_rfl) (fun _ _ _ h => h) rfl hS (fun w hS => x_move (hF.tmp 0 rfl)) rfl ?_; clear hF; intro a hF
 refine r_take 1 hF rfl rfl rfl (by kernel_rfl) (by kernel_rfl) (by kernel_rfl) (fun _ _ _ h => h) rfl hS (fun w hS => x_move (hF.tmp 1 rfl)) rfl ?_; clear hF; intro a hF
 refine r_take 2 hF rfl rfl rfl (by kernel_rfl) (by kernel_rfl) (by kernel_rfl) (fun _ _ _ h => h) rfl hS (fun w hS => x_slice_h Tryd.underlying48 ty58 (hF.tmp 20 rfl) (hF.tmp 21 rfl) (by omega) (by omega) hlc) rfl ?_; clear hF; intro a hF
 refine r_take 3 hF rfl rfl rfl (by kernel_rfl) (by kernel_rfl) (by kernel_rfl) (fun _ _ _ h => h) rfl hS (fun w hS => x_move (hF.tmp 0 rfl)) rfl ?_; clear hF; intro a hF
 refine r_take 4 hF rfl rfl rfl (by kernel_rfl) (by kernel_rfl) (by kernel_rfl) (fun _ _ _ h => h) rfl hS (fun w hS => x_move (hF.tmp 2 rfl)) rfl ?_; clear hF; intro a hF
 refine r_take 5 hF rfl rfl rfl (by kernel_rfl) (by kernel_rfl) (by kernel_rfl) (fun _ _ _ h => h) rfl hS (fun w hS => x_slice_l (E := WayE) Tryd.underlying48 ty58 (hF.tmp 23 rfl) (hF.tmp 24 rfl) (by omega) (by omega) hlc) rfl ?_; clear hF; intro a hF
 refine r_do 6 rfl (by kernel_rfl) rfl rfl ?_
 refine w_appendDel 2 (i := i) (j := i + 1) hF hH rfl Tryd.underlying48 ty58 rfl (by omega) hi (hF.tmp 22 rfl) (hF.tmp 25 rfl) ?_
 clear hF hH; intro a w hF hH
 clear hS; have hS : SL _ _ := SL.of hH (sub_nil _); refine ⟨hS, ?_⟩
 refine r_take 7 hF rfl rfl rfl (by kernel_rfl) (by kernel_rfl) (by kernel_rfl) (fun _ _ _ h => h) rfl hS (fun w hS => x_assign (hF.tmp 26 rfl)) rfl ?_; clear hF; intro a hF
 refine r_end (by kernel_rfl) ?_; clear hS
 refine hK6 _ _ ?_
 refine wp_seq_k fun khK7 hK7 => ?_
 refine wp_region_lit ?_
 refine l_at hF rfl rfl rfl (x_move (hF.tmp 0 rfl)) ?_; clear hF; intro a hF
 refine l_at hF rfl rfl rfl (x_move (hF.tmp 0 rfl)) ?_; clear hF; intro a hF
 refine l_at hF rfl rfl rfl (x_len_slice Tryd.underlying48 (hF.tmp 28 rfl)) ?_; clear hF; intro a hF
 refine l_at hF rfl rfl rfl (x_move (hF.tmp 7 rfl)) ?_; clear hF; intro a hF
 refine l_at hF rfl rfl rfl (x_slice_cap (E := WayE) Tryd.underlying48 ty58 (hF.tmp 27 rfl) (hF.tmp 29 rfl) (hF.tmp 30 rfl) (by omega) (by rw [hlen]; omega) (by have := hlc; omega)) ?_; clear hF; intro a hF
 rw [Int.toNat_natCast, Int.toNat_natCast, show xs.length - (xs.take i ++ xs.drop (i + 1)).length = 1 by rw [hlen]; omega] at hF
 refine wpList_plain rfl fun K hK => ?_
 refine w_clear (E := WayE) 2 (m := 1) hH Tryd.underlying48 ty58 (by decide) (by decide) rfl (by decide) hroom (hF.tmp 31 rfl) ?_
 clear hH; intro w hH
 refine hK _ _ ?_; clear hK K
 refine wpList_nil ?_
 refine hK7 _ _ ?_
 refine wp_seq_k fun khK8 hK8 => ?_
 refine wp_region_lit ?_
 refine l_at hF rfl rfl rfl (x_move (hF.tmp 0 rfl)) ?_; clear hF; intro a hF
 refine l_at hF rfl rfl rfl (x_assign (hF.tmp 32 rfl)) ?_; clear hF; intro a hF
 refine wpList_nil ?_
 refine hK8 _ _ ?_
 refine wp_ret ?_
 try simp only [Exit.then, Exit.inBlock]
 exact fin_ret hF (res1 hF rfl rfl) ⟨rfl, hH.mods, hH.row 2 rfl⟩
set_option maxRecDepth 100000 in
set_option maxHeartbeats 1000000 in
theorem bnew_calls (w0 : World) : Calls Tryd.prog 7 #[] w0 fun e w' => ∃ bb X, e = .returned (.pointer (some ⟨bb, 0, none⟩)) ∧ BagA 51 58 bb bag0 X ∧ X.ok w' ∧ Mods (fun _ => False) w0 w' ∧ (∀ k, X.own k → w0.heap.size ≤ k) ∧ ∀ k, X.rd k → False := by
 refine calls_of_wp Tryd.func7 rfl ?_
 have hF := Fr.enter #[] 3 (slotsOf [] 0) (Nat.le_of_ble_eq_true rfl) (fun i v h => by have h2 := (get_slotsOf _ 0 i v h).2; simpa only [List.getElem?_toArray, Nat.sub_zero] using h2)
 have hH := Hp.nil (fun _ => False) w0
 rw [Tryd.ntmps7]
 revert hF; generalize (⟨(#[] : Array Value) ++ Array.replicate (3 - (#[] : Array Value).size) undef, []⟩ : Act) = a; intro hF
 refine wp_seq_k fun khK1 hK1 => ?_
 refine wp_region_lit ?_
 refine l_at hF rfl rfl rfl (x_assign rfl) ?_; clear hF; intro a hF
 refine wpList_nil ?_
 refine hK1 _ _ ?_
 refine wp_seq_k fun khK2 hK2 => ?_
 refine wp_region_lit ?_
 refine l_at hF rfl rfl rfl (x_buildS (cells := #[.slice none 0 0, .int .i64 0, .int .i64 0, .int .i64 0, .int .i64 0, .int .i64 0, .int .i64 0, .int .i64 0, .int .i64 0, .int .i64 0]) (places := #[(0, 1), (1, 8), (9, 1)]) Tryd.underlying51 ty51 (by kernel_rfl) Array.map_empty rfl) ?_; clear hF; intro a hF
 refine wpList_plain rfl fun K hK => ?_
 refine w_box 1 hF hH rfl (hF.tmp 1 rfl) ?_
 clear hF hH; intro a w b2 hF hH
 refine hK _ _ ?_; clear hK K
 refine l_at hF rfl rfl rfl (x_assign (hF.tmp 2 rfl)) ?_; clear hF; intro a hF
 refine wpList_nil ?_
 refine hK2 _ _ ?_
 refine wp_ret ?_
 try simp only [Exit.then, Exit.inBlock]
 have hH := hH.row0 2 WayE 58
 have hl := hH.sub [(1, .blk b2 (.cells #[.slice none 0 0, .int .i64 0, .int .i64 0, .int .i64 0, .int .i64 0, .int .i64 0, .int .i64 0, .int .i64 0, .int .i64 0, .int .i64 0] 51 (0, 0))), (2, .row WayE 58 (.slice none 0 0) [] (fun _ => False))] (sub_cons (sub_cons (sub_nil _) 2 rfl) 1 rfl)
 exact fin_ret hF (res1 hF rfl rfl) ⟨b2, _, rfl, ⟨none, 0, _, rfl⟩, hl.okAll, hl.mods, own_cons (fun k hk => (hl.mine 1 _ rfl k hk).resolve_left (fun h => h)) (own_cons (fun k hk => (hl.mine 2 _ rfl k hk).resolve_left (fun h => h)) own_nil), rdin_cons (fun k h => h.elim) (rdin_cons (fun k h => h.elim) rdin_nil)⟩
set_option maxRecDepth 100000 in
set_option maxHeartbeats 1000000 in
theorem put_calls (w0 : World) {X : Asn} {bb : Nat} {s : BagS} (hX : BagA 51 58 bb s X) (hok : X.ok w0) (hs : BagOk s) {okb : Nat → Prop} {Ab : Option Addr} {cb : Nat} {p : MessageD × Int} (hrb : Rd (.int .u8) w0 okb Ab (encM p.1) cb) (hbin : ∀ k, okb k → k < w0.heap.size) (hbs : ∀ k, okb k → ¬ X.own k) : Calls Tryd.prog 22 #[.pointer (some ⟨bb, 0, none⟩), .agg #[.slice Ab (encM p.1).length cb, .int .i64 p.2]] w0 fun e w' => ∃ X', e = .returned (.int .i64 (putE s)) ∧ BagA 51 58 bb (putS s p) X' ∧ Grew (fun _ => False) okb X w0 w' X' := by
 obtain ⟨Aw, cw, okw, rfl⟩ := hX
 refine calls_of_wp Tryd.func22 rfl ?_
 have hF := Fr.enter #[.pointer (some ⟨bb, 0, none⟩), .agg #[.slice Ab (encM p.1).length cb, .int .i64 p.2]] 28 (slotsOf [.pointer (some ⟨bb, 0, none⟩), .agg #[.slice Ab (encM p.1).length cb, .int .i64 p.2]] 0) (Nat.le_of_ble_eq_true rfl) (fun i v h => by have h2 := (get_slotsOf _ 0 i v h).2; simpa only [List.getElem?_toArray, Nat.sub_zero] using h2)
 rw [Tryd.ntmps22]
 revert hF; generalize (⟨(#[.pointer (some ⟨bb, 0, none⟩), .agg #[.slice Ab (encM p.1).length cb, .int .i64 p.2]] : Array Value) ++ Array.replicate (28 - (#[.pointer (some ⟨bb, 0, none⟩), .agg #[.slice Ab (encM p.1).length cb, .int .i64 p.2]] : Array Value).size) undef, []⟩ : Act) = a; intro hF
 have hH := Hp.ofAll hok.holds
 have hfew := hs.few
 have hwl := wy_len s.ways
 have hH := hH.readable 901 hrb hbin (fun i A_ hA k hk hk2 => hbs k hk2 ⟨i, A_, hA, hk⟩)
 refine wp_seq_k fun khK1 hK1 => ?_
 refine wp_region_lit ?_
 refine wpList_plain rfl fun K hK => ?_
 refine w_box 3 hF hH rfl (hF.tmp 1 rfl) ?_
 clear hF hH; intro a w b3 hF hH
 refine hK _ _ ?_; clear hK K
 refine l_at hF rfl rfl rfl (x_assign rfl) ?_; clear hF; intro a hF
 refine wpList_nil ?_
 refine hK1 _ _ ?_
 refine wp_seq_k fun khK2 hK2 => ?_
 refine wp_seq_k fun khK3 hK3 => ?_
 refine wp_region_lit ?_
 refine l_at hF rfl rfl rfl (x_move (hF.tmp 0 rfl)) ?_; clear hF; intro a hF
 refine l_at hF rfl rfl rfl (x_nil (hF.tmp 5 rfl)) ?_; clear hF; intro a hF
 refine l_at hF rfl rfl rfl (x_faddr Tryd.underlying51 rfl ty48 (by decide) (hF.tmp 6 rfl) rfl) ?_; clear hF; intro a hF
 refine l_at hF rfl rfl rfl (x_load1 ty48 (hF.tmp 7 rfl) (blk_cell (hH.at 1 rfl) 0 rfl)) ?_; clear hF; intro a hF
 refine l_at hF rfl rfl rfl (x_len_slice Tryd.underlying48 (hF.tmp 8 rfl)) ?_; clear hF; intro a hF
 refine l_at hF rfl rfl rfl (x_geq (hF.tmp 9 rfl) rfl) ?_; clear hF; intro a hF
 refine wpList_nil ?_
 refine hK3 _ _ ?_
 refine wp_cond_split (hF.tmp 10 rfl) (fun hc10 => ?_) (fun hc10 => ?_)
 ·have hk10_1 := hc10; try simp only [Bool.or_eq_true, Bool.and_eq_true, Bool.or_eq_false_iff, Bool.and_eq_false_iff, Bool.not_eq_true', Bool.not_eq_false', decide_eq_true_eq, decide_eq_false_iff_not, Bool.not_true, Bool.not_false] at hc10
  have hcf : (500 : Int) ≤ (s.ways.length : Int) := by omega
  refine wp_seq_k fun khK4 hK4 => ?_
  refine wp_region_lit ?_
  refine l_at hF rfl rfl rfl (x_move (hF.tmp 0 rfl)) ?_; clear hF; intro a hF
  refine l_at hF rfl rfl rfl (x_nil (hF.tmp 11 rfl)) ?_; clear hF; intro a hF
  refine l_at hF rfl rfl rfl (x_faddr Tryd.underlying51 rfl ty3 (by decide) (hF.tmp 12 rfl) rfl) ?_; clear hF; intro a hF
  refine l_at hF rfl rfl rfl (x_load1 ty3 (hF.tmp 13 rfl) (blk_cell (hH.at 1 rfl) 9 rfl)) ?_; clear hF; intro a hF
  refine l_at hF rfl rfl rfl (x_add (hF.tmp 14 rfl) rfl rfl) ?_; clear hF; intro a hF
  refine l_at hF rfl rfl rfl (x_nil (hF.tmp 11 rfl)) ?_; clear hF; intro a hF
  refine l_at hF rfl rfl rfl (x_faddr Tryd.underlying51 rfl ty3 (by decide) (hF.tmp 16 rfl) rfl) ?_; clear hF; intro a hF
  refine wpList_plain rfl fun K hK => ?_
  refine w_store 1 hH ty3 rfl (hF.tmp 17 rfl) (hF.tmp 15 rfl) rfl (one1 rfl rfl) (by first | decide | exact Nat.le_of_ble_eq_true rfl) ?_
  clear hH; intro w hH
  refine hK _ _ ?_; clear hK K
  refine wpList_nil ?_
  refine hK4 _ _ ?_
  refine wp_seq_k fun khK5 hK5 => ?_
  refine wp_region_lit ?_
  refine l_at hF rfl rfl rfl (x_assign rfl) ?_; clear hF; intro a hF
  refine wpList_nil ?_
  refine hK5 _ _ ?_
  refine wp_ret ?_
  try simp only [Exit.then, Exit.inBlock]
  have hE_ := (put_full (p := p) hcf).1
  have hM_ := (put_full (p := p) hcf).2
  refine fin_ret hF (res1 hF rfl rfl) ⟨Asn.all [(1, .blk bb (.cells #[.slice Aw (wy s.ways).length cw, .int .i64 (gi s.eps 0), .int .i64 (gi s.eps 1), .int .i64 (gi s.eps 2), .int .i64 (gi s.eps 3), .int .i64 (gi s.eps 4), .int .i64 (gi s.eps 5), .int .i64 (gi s.eps 6), .int .i64 (gi s.eps 7), .int .i64 (w64I (s.lost + 1))] 51 (0, 0))), (2, .row WayE 58 (.slice Aw (wy s.ways).length cw) (wy s.ways) okw)], by rw [hE_] <;> rfl, by rw [hM_]; exact ⟨_, _, _, rfl⟩, grew_of (hH.sub [(1, .blk bb (.cells #[.slice Aw (wy s.ways).length cw, .int .i64 (gi s.eps 0), .int .i64 (gi s.eps 1), .int .i64 (gi s.eps 2), .int .i64 (gi s.eps 3), .int .i64 (gi s.eps 4), .int .i64 (gi s.eps 5), .int .i64 (gi s.eps 6), .int .i64 (gi s.eps 7), .int .i64 (w64I (s.lost + 1))] 51 (0, 0))), (2, .row WayE 58 (.slice Aw (wy s.ways).length cw) (wy s.ways) okw)] (sub_cons (sub_cons (sub_nil _) 2 rfl) 1 rfl)) (rdin_cons (fun k h => h.elim) (rdin_cons (fun k h => .inr (.inl ⟨2, _, rfl, h⟩)) rdin_nil))⟩
 ·have hk10_2 := hc10; try simp only [Bool.or_eq_true, Bool.and_eq_true, Bool.or_eq_false_iff, Bool.and_eq_false_iff, Bool.not_eq_true', Bool.not_eq_false', decide_eq_true_eq, decide_eq_false_iff_not, Bool.not_true, Bool.not_false] at hc10
  have hcf : ¬ (500 : Int) ≤ (s.ways.length : Int) := by omega
  refine wp_skip ?_
  refine hK2 _ _ ?_
  refine wp_seq_k fun khK6 hK6 => ?_
  have hJr4 : ∀ a w, ∀ A25 : Option Addr, ∀ b24 : Nat, ∀ c25 : Nat, ((OwnL [(1, .blk bb (.cells #[.slice Aw (wy s.ways).length cw, .int .i64 (gi s.eps 0), .int .i64 (gi s.eps 1), .int .i64 (gi s.eps 2), .int .i64 (gi s.eps 3), .int .i64 (gi s.eps 4), .int .i64 (gi s.eps 5), .int .i64 (gi s.eps 6), .int .i64 (gi s.eps 7), .int .i64 s.lost] 51 (0, 0))), (2, .row WayE 58 (.slice Aw (wy s.ways).length cw) (wy s.ways) okw)]) b24 ∨ w0.heap.size ≤ b24) → Fr 28 a [] → Hp (OwnL [(1, .blk bb (.cells #[.slice Aw (wy s.ways).length cw, .int .i64 (gi s.eps 0), .int .i64 (gi s.eps 1), .int .i64 (gi s.eps 2), .int .i64 (gi s.eps 3), .int .i64 (gi s.eps 4), .int .i64 (gi s.eps 5), .int .i64 (gi s.eps 6), .int .i64 (gi s.eps 7), .int .i64 s.lost] 51 (0, 0))), (2, .row WayE 58 (.slice Aw (wy s.ways).length cw) (wy s.ways) okw)]) w0 w [(1, .blk bb (.cells #[.slice A25 ((wy s.ways) ++ [(⟨encM p.1, p.2⟩ : WayD)]).length c25, .int .i64 (gi s.eps 0), .int .i64 (gi s.eps 1), .int .i64 (gi s.eps 2), .int .i64 (gi s.eps 3), .int .i64 (gi s.eps 4), .int .i64 (gi s.eps 5), .int .i64 (gi s.eps 6), .int .i64 (gi s.eps 7), .int .i64 s.lost] 51 (0, 0))), (2, .row WayE 58 (.slice A25 ((wy s.ways) ++ [(⟨encM p.1, p.2⟩ : WayD)]).length c25) ((wy s.ways) ++ [(⟨encM p.1, p.2⟩ : WayD)]) (fun kb => okw kb ∨ (fun kb => okb kb ∨ kb = b24) kb)), (901, .rd_ (.int .u8) Ab (encM p.1) cb okb), (3, .blk b3 (.cells #[.slice Ab (encM p.1).length cb, .int .i64 p.2] 58 (0, 0))), (24, .rd_ WayE (some ⟨b24, 0, none⟩) [(⟨encM p.1, p.2⟩ : WayD)] 1 (fun kb => okb kb ∨ kb = b24))] → khK6 a w := by
   intro a w A25 b24 c25 hjr4_0 hF hH
   refine hK6 a w ?_
   refine wp_seq_k fun khK7 hK7 => ?_
   refine wp_region_lit ?_
   refine l_at hF rfl rfl rfl (x_assign rfl) ?_; clear hF; intro a hF
   refine wpList_nil ?_
   refine hK7 _ _ ?_
   refine wp_ret ?_
   try simp only [Exit.then, Exit.inBlock]
   have hlw : ((wy s.ways) ++ [(⟨encM p.1, p.2⟩ : WayD)]) = wy (s.ways ++ [p]) := wy_put _ _
   rw [hlw] at hH
   have hE_ := (put_room (p := p) hcf).1
   have hM_ := (put_room (p := p) hcf).2
   refine fin_ret hF (res1 hF rfl rfl) ⟨Asn.all [(1, .blk bb (.cells #[.slice A25 (wy (s.ways ++ [p])).length c25, .int .i64 (gi s.eps 0), .int .i64 (gi s.eps 1), .int .i64 (gi s.eps 2), .int .i64 (gi s.eps 3), .int .i64 (gi s.eps 4), .int .i64 (gi s.eps 5), .int .i64 (gi s.eps 6), .int .i64 (gi s.eps 7), .int .i64 s.lost] 51 (0, 0))), (2, .row WayE 58 (.slice A25 (wy (s.ways ++ [p])).length c25) (wy (s.ways ++ [p])) (fun kb => okw kb ∨ (fun kb => okb kb ∨ kb = b24) kb))], by rw [hE_] <;> rfl, by rw [hM_]; exact ⟨_, _, _, rfl⟩, grew_of (hH.sub [(1, .blk bb (.cells #[.slice A25 (wy (s.ways ++ [p])).length c25, .int .i64 (gi s.eps 0), .int .i64 (gi s.eps 1), .int .i64 (gi s.eps 2), .int .i64 (gi s.eps 3), .int .i64 (gi s.eps 4), .int .i64 (gi s.eps 5), .int .i64 (gi s.eps 6), .int .i64 (gi s.eps 7), .int .i64 s.lost] 51 (0, 0))), (2, .row WayE 58 (.slice A25 (wy (s.ways ++ [p])).length c25) (wy (s.ways ++ [p])) (fun kb => okw kb ∨ (fun kb => okb kb ∨ kb = b24) kb))] (sub_cons (sub_cons (sub_nil _) 2 rfl) 1 rfl)) (rdin_cons (fun k h => h.elim) (rdin_cons (fun k h => by rcases h with h | h | rfl; exact .inr (.inl ⟨2, _, rfl, h⟩); exact .inr (.inr (.inl h)); exact hjr4_0.elim .inl (fun h => .inr (.inr (.inr h)))) rdin_nil))⟩
  refine r_start [(3, .blk b3 (.cells #[.slice Ab (encM p.1).length cb, .int .i64 p.2] 58 (0, 0)))] (by kernel_rfl) hH fun hH => ?_
  have hS : SL [(3, .blk b3 (.cells #[.slice Ab (encM p.1).length cb, .int .i64 p.2] 58 (0, 0)))] _ := SL.of hH (sub_cons (sub_nil _) 3 rfl)
  refine r_take 0 hF rfl rfl rfl (by kernel_rfl) (by kernel_rfl) (by kernel_rfl) (fun _ _ _ h => h) rfl hS (fun w hS => x_move (hF.tmp 0 rfl)) rfl ?_; clear hF; intro a hF
  refine r_take 1 hF rfl rfl rfl (by kernel_rfl) (by kernel_rfl) (by kernel_rfl) (fun _ _ _ h => h) rfl hS (fun w hS => x_move (hF.tmp 0 rfl)) rfl ?_; clear hF; intro a hF
  refine r_take 2 hF rfl rfl rfl (by kernel_rfl) (by kernel_rfl) (by kernel_rfl) (fun _ _ _ h => h) rfl hS (fun w hS => x_nil (hF.tmp 19 rfl)) rfl ?_; clear hF; intro a hF
  refine r_take 3 hF rfl rfl rfl (by kernel_rfl) (by kernel_rfl) (by kernel_rfl) (fun _ _ _ h => h) rfl hS (fun w hS => x_faddr Tryd.underlying51 rfl ty48 (by decide) (hF.tmp 20 rfl) rfl) rfl ?_; clear hF; intro a hF
  refine r_take 5 hF rfl rfl rfl (by kernel_rfl) (by kernel_rfl) (by kernel_rfl) (fun _ _ _ h => h) rfl hS (fun w hS => x_loadn ty58 (hF.tmp 3 rfl) rfl (blk_whole (SL.at_ hS 3 rfl))) rfl ?_; clear hF; intro a hF
  refine r_do2 4 6 rfl rfl (by kernel_rfl) rfl rfl rfl rfl ?_ ?_
  ·
   refine w_at hF (x_load1 ty48 (hF.tmp 21 rfl) (blk_cell (hH.at 1 rfl) 0 rfl)) rfl rfl ?_
   clear hF; intro a hF
   clear hS; have hS : SL _ _ := SL.of hH (sub_cons (sub_nil _) 3 rfl); refine ⟨hS, ?_⟩
   refine r_do 6 rfl (by kernel_rfl) rfl rfl ?_
   refine w_lit1 24 WayE (⟨encM p.1, p.2⟩ : WayD) #[.slice Ab (encM p.1).length cb, .int .i64 p.2] okb hF hH rfl Tryd.underlying48 ty58 (by simp only [List.map_toArray, List.map_cons, List.map_nil, hF.tmp 23 rfl] <;> rfl) (by decide) (by kernel_rfl) (way_mk (⟨encM p.1, p.2⟩ : WayD) (hH.rd 901 rfl)) (fun kb hk => ⟨901, _, rfl, hk⟩) ?_
   clear hF hH; intro a w b24 hF hb24_ hH
   clear hS; have hS : SL _ _ := SL.of hH (sub_cons (sub_nil _) 3 rfl); refine ⟨hS, ?_⟩
   refine r_do 7 rfl (by kernel_rfl) rfl rfl ?_
   refine w_append 2 24 (xs := (wy s.ways)) (ys := ([(⟨encM p.1, p.2⟩ : WayD)])) hF hH rfl Tryd.underlying48 ty58 rfl rfl rfl rfl ((hH.rd 24 rfl)) (by intro k_ hk_; exact .inr hk_) (hF.tmp 22 rfl) (hF.tmp 24 rfl) (by simp only [List.length_cons, List.length_nil]; omega) (by simp only [List.length_cons, List.length_nil, maxLen]; omega) (fun kb => okw kb ∨ (fun kb => okb kb ∨ kb = b24) kb) (fun w' v' h => h) (by rintro k_ (hk_ | hk_); exact .inl hk_; exact .inr hk_) ?_
   clear hF hH; intro a w v25 hF hH
   clear hS; have hS : SL _ _ := SL.of hH (sub_cons (sub_nil _) 3 rfl); refine ⟨hS, ?_⟩
   obtain ⟨A25, c25, rfl⟩ := (hH.row 2 rfl).form
   refine r_take 8 hF rfl rfl rfl (by kernel_rfl) (by kernel_rfl) (by kernel_rfl) (fun _ _ _ h => h) rfl hS (fun w hS => x_nil (hF.tmp 18 rfl)) rfl ?_; clear hF; intro a hF
   refine r_take 9 hF rfl rfl rfl (by kernel_rfl) (by kernel_rfl) (by kernel_rfl) (fun _ _ _ h => h) rfl hS (fun w hS => x_faddr Tryd.underlying51 rfl ty48 (by decide) (hF.tmp 26 rfl) rfl) rfl ?_; clear hF; intro a hF
   refine r_do 10 rfl (by kernel_rfl) rfl rfl ?_
   refine w_store 1 hH ty48 rfl (hF.tmp 27 rfl) (hF.tmp 25 rfl) rfl (one1 rfl rfl) (by first | decide | exact Nat.le_of_ble_eq_true rfl) ?_
   clear hH; intro w hH
   clear hS; have hS : SL _ _ := SL.of hH (sub_cons (sub_nil _) 3 rfl); refine ⟨hS, ?_⟩
   refine r_end (by kernel_rfl) ?_; clear hS
   exact hJr4 _ _ _ _ _ hb24_ hF.bare (hH.sub _ (sub_cons (sub_cons (sub_cons (sub_cons (sub_cons (sub_nil _) 24 rfl) 3 rfl) 901 rfl) 2 rfl) 1 rfl))
  ·
   refine w_lit1 24 WayE (⟨encM p.1, p.2⟩ : WayD) #[.slice Ab (encM p.1).length cb, .int .i64 p.2] okb hF hH rfl Tryd.underlying48 ty58 (by simp only [List.map_toArray, List.map_cons, List.map_nil, hF.tmp 23 rfl] <;> rfl) (by decide) (by kernel_rfl) (way_mk (⟨encM p.1, p.2⟩ : WayD) (hH.rd 901 rfl)) (fun kb hk => ⟨901, _, rfl, hk⟩) ?_
   clear hF hH; intro a w b24 hF hb24_ hH
   clear hS; have hS : SL _ _ := SL.of hH (sub_cons (sub_nil _) 3 rfl); refine ⟨hS, ?_⟩
   refine r_do 4 rfl (by kernel_rfl) rfl rfl ?_
   refine w_at hF (x_load1 ty48 (hF.tmp 21 rfl) (blk_cell (hH.at 1 rfl) 0 rfl)) rfl rfl ?_
   clear hF; intro a hF
   clear hS; have hS : SL _ _ := SL.of hH (sub_cons (sub_nil _) 3 rfl); refine ⟨hS, ?_⟩
   refine r_do 7 rfl (by kernel_rfl) rfl rfl ?_
   refine w_append 2 24 (xs := (wy s.ways)) (ys := ([(⟨encM p.1, p.2⟩ : WayD)])) hF hH rfl Tryd.underlying48 ty58 rfl rfl rfl rfl ((hH.rd 24 rfl)) (by intro k_ hk_; exact .inr hk_) (hF.tmp 22 rfl) (hF.tmp 24 rfl) (by simp only [List.length_cons, List.length_nil]; omega) (by simp only [List.length_cons, List.length_nil, maxLen]; omega) (fun kb => okw kb ∨ (fun kb => okb kb ∨ kb = b24) kb) (fun w' v' h => h) (by rintro k_ (hk_ | hk_); exact .inl hk_; exact .inr hk_) ?_
   clear hF hH; intro a w v25 hF hH
   clear hS; have hS : SL _ _ := SL.of hH (sub_cons (sub_nil _) 3 rfl); refine ⟨hS, ?_⟩
   obtain ⟨A25, c25, rfl⟩ := (hH.row 2 rfl).form
   refine r_take 8 hF rfl rfl rfl (by kernel_rfl) (by kernel_rfl) (by kernel_rfl) (fun _ _ _ h => h) rfl hS (fun w hS => x_nil (hF.tmp 18 rfl)) rfl ?_; clear hF; intro a hF
   refine r_take 9 hF rfl rfl rfl (by kernel_rfl) (by kernel_rfl) (by kernel_rfl) (fun _ _ _ h => h) rfl hS (fun w hS => x_faddr Tryd.underlying51 rfl ty48 (by decide) (hF.tmp 26 rfl) rfl) rfl ?_; clear hF; intro a hF
   refine r_do 10 rfl (by kernel_rfl) rfl rfl ?_
   refine w_store 1 hH ty48 rfl (hF.tmp 27 rfl) (hF.tmp 25 rfl) rfl (one1 rfl rfl) (by first | decide | exact Nat.le_of_ble_eq_true rfl) ?_
   clear hH; intro w hH
   clear hS; have hS : SL _ _ := SL.of hH (sub_cons (sub_nil _) 3 rfl); refine ⟨hS, ?_⟩
   refine r_end (by kernel_rfl) ?_; clear hS
   exact hJr4 _ _ _ _ _ hb24_ hF.bare (hH.sub _ (sub_cons (sub_cons (sub_cons (sub_cons (sub_cons (sub_nil _) 24 rfl) 3 rfl) 901 rfl) 2 rfl) 1 rfl))
set_option maxRecDepth 100000 in
set_option maxHeartbeats 1000000 in
theorem blen_calls (w0 : World) {X : Asn} {bb : Nat} {s : BagS} (hX : BagA 51 58 bb s X) (hok : X.ok w0) (hs : BagOk s) : Calls Tryd.prog 11 #[.pointer (some ⟨bb, 0, none⟩)] w0 fun e w' => e = .returned (.int .i64 (s.ways.length : Int)) ∧ Mods (fun _ => False) w0 w' := by
 obtain ⟨Aw, cw, okw, rfl⟩ := hX
 refine calls_of_wp Tryd.func11 rfl ?_
 have hF := Fr.enter #[.pointer (some ⟨bb, 0, none⟩)] 10 (slotsOf [.pointer (some ⟨bb, 0, none⟩)] 0) (Nat.le_of_ble_eq_true rfl) (fun i v h => by have h2 := (get_slotsOf _ 0 i v h).2; simpa only [List.getElem?_toArray, Nat.sub_zero] using h2)
 rw [Tryd.ntmps11]
 revert hF; generalize (⟨(#[.pointer (some ⟨bb, 0, none⟩)] : Array Value) ++ Array.replicate (10 - (#[.pointer (some ⟨bb, 0, none⟩)] : Array Value).size) undef, []⟩ : Act) = a; intro hF
 have hH := two_ro hok.holds
 have hfew := hs.few
 have hwl := wy_len s.ways
 have hH := hH.addro 3 (.rd_ WayE Aw (wy s.ways) cw (fun k => (Asn.row WayE 58 (.slice Aw (wy s.ways).length cw) (wy s.ways) okw).own k ∨ (Asn.row WayE 58 (.slice Aw (wy s.ways).length cw) (wy s.ways) okw).rd k)) (fun _ h => h) (row_ro (hH.holds 2 _ rfl)) (fun k hk => ⟨2, _, rfl, hk⟩)
 refine wp_seq_k fun khK1 hK1 => ?_
 refine wp_region_lit ?_
 refine l_at hF rfl rfl rfl (x_assign rfl) ?_; clear hF; intro a hF
 refine wpList_nil ?_
 refine hK1 _ _ ?_
 refine wp_seq_k fun khK2 hK2 => ?_
 refine wp_seq_k fun khK3 hK3 => ?_
 refine wp_region_lit ?_
 refine l_at hF rfl rfl rfl (x_move (hF.tmp 0 rfl)) ?_; clear hF; intro a hF
 refine l_at hF rfl rfl rfl (x_ptrnil Tryd.underlying23 (hF.tmp 3 rfl) rfl) ?_; clear hF; intro a hF
 refine wpList_nil ?_
 refine hK3 _ _ ?_
 refine wp_cond_false (hF.tmp 4 rfl) ?_
 refine wp_skip ?_
 refine hK2 _ _ ?_
 refine wp_seq_k fun khK4 hK4 => ?_
 refine wp_region_lit ?_
 refine l_at hF rfl rfl rfl (x_move (hF.tmp 0 rfl)) ?_; clear hF; intro a hF
 refine l_at hF rfl rfl rfl (x_nil (hF.tmp 5 rfl)) ?_; clear hF; intro a hF
 refine l_at hF rfl rfl rfl (x_faddr Tryd.underlying51 rfl ty48 (by decide) (hF.tmp 6 rfl) rfl) ?_; clear hF; intro a hF
 refine l_at hF rfl rfl rfl (x_load1 ty48 (hF.tmp 7 rfl) (blk_cell (hH.atro 1 rfl) 0 rfl)) ?_; clear hF; intro a hF
 refine l_at hF rfl rfl rfl (x_len_slice Tryd.underlying48 (hF.tmp 8 rfl)) ?_; clear hF; intro a hF
 refine l_at hF rfl rfl rfl (x_assign (hF.tmp 9 rfl)) ?_; clear hF; intro a hF
 refine wpList_nil ?_
 refine hK4 _ _ ?_
 refine wp_ret ?_
 try simp only [Exit.then, Exit.inBlock]
 rw [hwl] at hF
 exact fin_ret hF (res1 hF rfl rfl) ⟨rfl, hH.mods⟩
set_option maxRecDepth 100000 in
set_option maxHeartbeats 1000000 in
theorem lost_calls (w0 : World) {X : Asn} {bb : Nat} {s : BagS} (hX : BagA 51 58 bb s X) (hok : X.ok w0) (hs : BagOk s) : Calls Tryd.prog 15 #[.pointer (some ⟨bb, 0, none⟩)] w0 fun e w' => e = .returned (.int .i64 s.lost) ∧ Mods (fun _ => False) w0 w' := by
 obtain ⟨Aw, cw, okw, rfl⟩ := hX
 refine calls_of_wp Tryd.func15 rfl ?_
 have hF := Fr.enter #[.pointer (some ⟨bb, 0, none⟩)] 9 (slotsOf [.pointer (some ⟨bb, 0, none⟩)] 0) (Nat.le_of_ble_eq_true rfl) (fun i v h => by have h2 := (get_slotsOf _ 0 i v h).2; simpa only [List.getElem?_toArray, Nat.sub_zero] using h2)
 rw [Tryd.ntmps15]
 revert hF; generalize (⟨(#[.pointer (some ⟨bb, 0, none⟩)] : Array Value) ++ Array.replicate (9 - (#[.pointer (some ⟨bb, 0, none⟩)] : Array Value).size) undef, []⟩ : Act) = a; intro hF
 have hH := two_ro hok.holds
 have hfew := hs.few
 have hwl := wy_len s.ways
 have hH := hH.addro 3 (.rd_ WayE Aw (wy s.ways) cw (fun k => (Asn.row WayE 58 (.slice Aw (wy s.ways).length cw) (wy s.ways) okw).own k ∨ (Asn.row WayE 58 (.slice Aw (wy s.ways).length cw) (wy s.ways) okw).rd k)) (fun _ h => h) (row_ro (hH.holds 2 _ rfl)) (fun k hk => ⟨2, _, rfl, hk⟩)
 refine wp_seq_k fun khK1 hK1 => ?_
 refine wp_region_lit ?_
 refine l_at hF rfl rfl rfl (x_assign rfl) ?_; clear hF; intro a hF
 refine wpList_nil ?_
 refine hK1 _ _ ?_
 refine wp_seq_k fun khK2 hK2 => ?_
 refine wp_seq_k fun khK3 hK3 => ?_
 refine wp_region_lit ?_
 refine l_at hF rfl rfl rfl (x_move (hF.tmp 0 rfl)) ?_; clear hF; intro a hF
 refine l_at hF rfl rfl rfl (x_ptrnil Tryd.underlying23 (hF.tmp 3 rfl) rfl) ?_; clear hF; intro a hF
 refine wpList_nil ?_
 refine hK3 _ _ ?_
 refine wp_cond_false (hF.tmp 4 rfl) ?_
 refine wp_skip ?_
 refine hK2 _ _ ?_
 refine wp_seq_k fun khK4 hK4 => ?_
 refine wp_region_lit ?_
 refine l_at hF rfl rfl rfl (x_move (hF.tmp 0 rfl)) ?_; clear hF; intro a hF
 refine l_at hF rfl rfl rfl (x_nil (hF.tmp 5 rfl)) ?_; clear hF; intro a hF
 refine l_at hF rfl rfl rfl (x_faddr Tryd.underlying51 rfl ty3 (by decide) (hF.tmp 6 rfl) rfl) ?_; clear hF; intro a hF
 refine l_at hF rfl rfl rfl (x_load1 ty3 (hF.tmp 7 rfl) (blk_cell (hH.atro 1 rfl) 9 rfl)) ?_; clear hF; intro a hF
 refine l_at hF rfl rfl rfl (x_assign (hF.tmp 8 rfl)) ?_; clear hF; intro a hF
 refine wpList_nil ?_
 refine hK4 _ _ ?_
 refine wp_ret ?_
 try simp only [Exit.then, Exit.inBlock]
 exact fin_ret hF (res1 hF rfl rfl) ⟨rfl, hH.mods⟩
set_option maxRecDepth 100000 in
set_option maxHeartbeats 1000000 in
theorem epoch_calls (w0 : World) {X : Asn} {bb : Nat} {s : BagS} (hX : BagA 51 58 bb s X) (hok : X.ok w0) (hs : BagOk s) (n : Int) : Calls Tryd.prog 17 #[.pointer (some ⟨bb, 0, none⟩), .int .i64 n] w0 fun e w' => e = .returned (.int .i64 (epoS s n)) ∧ Mods (fun _ => False) w0 w' := by
 obtain ⟨Aw, cw, okw, rfl⟩ := hX
 refine calls_of_wp Tryd.func17 rfl ?_
 have hF := Fr.enter #[.pointer (some ⟨bb, 0, none⟩), .int .i64 n] 21 (slotsOf [.pointer (some ⟨bb, 0, none⟩), .int .i64 n] 0) (Nat.le_of_ble_eq_true rfl) (fun i v h => by have h2 := (get_slotsOf _ 0 i v h).2; simpa only [List.getElem?_toArray, Nat.sub_zero] using h2)
 rw [Tryd.ntmps17]
 revert hF; generalize (⟨(#[.pointer (some ⟨bb, 0, none⟩), .int .i64 n] : Array Value) ++ Array.replicate (21 - (#[.pointer (some ⟨bb, 0, none⟩), .int .i64 n] : Array Value).size) undef, []⟩ : Act) = a; intro hF
 have hH := two_ro hok.holds
 have hfew := hs.few
 have hwl := wy_len s.ways
 have hH := hH.addro 3 (.rd_ WayE Aw (wy s.ways) cw (fun k => (Asn.row WayE 58 (.slice Aw (wy s.ways).length cw) (wy s.ways) okw).own k ∨ (Asn.row WayE 58 (.slice Aw (wy s.ways).length cw) (wy s.ways) okw).rd k)) (fun _ h => h) (row_ro (hH.holds 2 _ rfl)) (fun k hk => ⟨2, _, rfl, hk⟩)
 refine wp_seq_k fun khK1 hK1 => ?_
 refine wp_region_lit ?_
 refine l_at hF rfl rfl rfl (x_assign rfl) ?_; clear hF; intro a hF
 refine wpList_nil ?_
 refine hK1 _ _ ?_
 refine wp_seq_k fun khK2 hK2 => ?_
 refine wp_seq_k fun khK3 hK3 => ?_
 refine wp_region_lit ?_
 refine l_at hF rfl rfl rfl (x_move (hF.tmp 0 rfl)) ?_; clear hF; intro a hF
 refine l_at hF rfl rfl rfl (x_ptrnil Tryd.underlying23 (hF.tmp 5 rfl) rfl) ?_; clear hF; intro a hF
 refine l_at hF rfl rfl rfl (x_move (hF.tmp 6 rfl)) ?_; clear hF; intro a hF
 refine l_atg hF ((wanted_of hF rfl rfl rfl rfl).trans rfl) rfl rfl (x_move (hF.tmp 1 rfl)) ?_; clear hF; intro a hF
 refine l_atg hF ((wanted_of hF rfl rfl rfl rfl).trans rfl) rfl rfl (x_lss (hF.tmp 8 rfl) rfl) ?_; clear hF; intro a hF
 refine l_at hF rfl rfl rfl (x_pickF (hF.tmp 7 rfl) rfl (hF.tmp 9 rfl)) ?_; clear hF; intro a hF
 refine l_at hF rfl rfl rfl (x_move (hF.tmp 10 rfl)) ?_; clear hF; intro a hF
 refine split_bool hF 11 rfl (fun hb11 => ?_) (fun hb11 => ?_)
 ·have hc11 := hb11; try simp only [Bool.or_eq_true, Bool.and_eq_true, Bool.or_eq_false_iff, Bool.and_eq_false_iff, Bool.not_eq_true', Bool.not_eq_false', decide_eq_true_eq, decide_eq_false_iff_not, Bool.not_true, Bool.not_false] at hc11
  have hno := rest_no (s := s) (in8_neg hc11)
  refine l_offg hF ((wanted_of hF rfl rfl rfl rfl).trans (by rw [hb11]; rfl)) rfl rfl ?_; clear hF; intro a hF
  refine l_offg hF ((wanted_of hF rfl rfl rfl rfl).trans (by rw [hb11]; rfl)) rfl rfl ?_; clear hF; intro a hF
  refine l_at hF rfl rfl rfl (x_pickT (hF.tmp 11 rfl) hb11 rfl) ?_; clear hF; intro a hF
  refine wpList_nil ?_
  refine hK3 _ _ ?_
  refine wp_cond_true (hF.tmp 14 rfl) ?_
  refine wp_seq_k fun khK4 hK4 => ?_
  refine wp_region_lit ?_
  refine l_at hF rfl rfl rfl (x_assign rfl) ?_; clear hF; intro a hF
  refine wpList_nil ?_
  refine hK4 _ _ ?_
  refine wp_ret ?_
  try simp only [Exit.then, Exit.inBlock]
  exact fin_ret hF (res1 hF rfl rfl) ⟨by rw [hno.2.2] <;> rfl, hH.mods⟩
 ·have hc11 := hb11; try simp only [Bool.or_eq_true, Bool.and_eq_true, Bool.or_eq_false_iff, Bool.and_eq_false_iff, Bool.not_eq_true', Bool.not_eq_false', decide_eq_true_eq, decide_eq_false_iff_not, Bool.not_true, Bool.not_false] at hc11
  refine l_atg hF ((wanted_of hF rfl rfl rfl rfl).trans (by rw [hb11]; rfl)) rfl rfl (x_move (hF.tmp 1 rfl)) ?_; clear hF; intro a hF
  refine l_atg hF ((wanted_of hF rfl rfl rfl rfl).trans (by rw [hb11]; rfl)) rfl rfl (x_geq (hF.tmp 12 rfl) rfl) ?_; clear hF; intro a hF
  refine l_at hF rfl rfl rfl (x_pickF (hF.tmp 11 rfl) hb11 (hF.tmp 13 rfl)) ?_; clear hF; intro a hF
  refine wpList_nil ?_
  refine hK3 _ _ ?_
  refine wp_cond_split (hF.tmp 14 rfl) (fun hc14 => ?_) (fun hc14 => ?_)
  ·have hk14_1 := hc14; try simp only [Bool.or_eq_true, Bool.and_eq_true, Bool.or_eq_false_iff, Bool.and_eq_false_iff, Bool.not_eq_true', Bool.not_eq_false', decide_eq_true_eq, decide_eq_false_iff_not, Bool.not_true, Bool.not_false] at hc14
   have hno := rest_no (s := s) (in8_big hc14)
   refine wp_seq_k fun khK5 hK5 => ?_
   refine wp_region_lit ?_
   refine l_at hF rfl rfl rfl (x_assign rfl) ?_; clear hF; intro a hF
   refine wpList_nil ?_
   refine hK5 _ _ ?_
   refine wp_ret ?_
   try simp only [Exit.then, Exit.inBlock]
   exact fin_ret hF (res1 hF rfl rfl) ⟨by rw [hno.2.2] <;> rfl, hH.mods⟩
  ·have hk14_2 := hc14; try simp only [Bool.or_eq_true, Bool.and_eq_true, Bool.or_eq_false_iff, Bool.and_eq_false_iff, Bool.not_eq_true', Bool.not_eq_false', decide_eq_true_eq, decide_eq_false_iff_not, Bool.not_true, Bool.not_false] at hc14
   have hyes := rest_yes (s := s) (in8_yes hc11 hc14)
   refine wp_skip ?_
   refine hK2 _ _ ?_
   refine wp_seq_k fun khK6 hK6 => ?_
   refine wp_region_lit ?_
   refine l_at hF rfl rfl rfl (x_move (hF.tmp 0 rfl)) ?_; clear hF; intro a hF
   refine l_at hF rfl rfl rfl (x_move (hF.tmp 1 rfl)) ?_; clear hF; intro a hF
   refine l_at hF rfl rfl rfl (x_nil (hF.tmp 15 rfl)) ?_; clear hF; intro a hF
   refine l_at hF rfl rfl rfl (x_faddr Tryd.underlying51 rfl ty49 (by decide) (hF.tmp 17 rfl) rfl) ?_; clear hF; intro a hF
   refine l_at hF rfl rfl rfl (x_iaddr_arr Tryd.underlying49 ty3 (hF.tmp 18 rfl) (hF.tmp 16 rfl) (by omega) (by omega)) ?_; clear hF; intro a hF
   refine l_at hF rfl rfl rfl (x_load1 ty3 (hF.tmp 19 rfl) (blk_cell (hH.atro 1 rfl) _ (eps_at (by omega) (by omega)))) ?_; clear hF; intro a hF
   refine l_at hF rfl rfl rfl (x_assign (hF.tmp 20 rfl)) ?_; clear hF; intro a hF
   refine wpList_nil ?_
   refine hK6 _ _ ?_
   refine wp_ret ?_
   try simp only [Exit.then, Exit.inBlock]
   exact fin_ret hF (res1 hF rfl rfl) ⟨by rw [hyes.2.2] <;> rfl, hH.mods⟩
set_option maxRecDepth 100000 in
set_option maxHeartbeats 1000000 in
theorem restart_calls (w0 : World) {X : Asn} {bb : Nat} {s : BagS} (hX : BagA 51 58 bb s X) (hok : X.ok w0) (hs : BagOk s) (n : Int) : Calls Tryd.prog 10 #[.pointer (some ⟨bb, 0, none⟩), .int .i64 n] w0 fun e w' => ∃ X', e = .returned (.int .i64 (rstE n)) ∧ BagA 51 58 bb (rstS s n) X' ∧ Grew (fun _ => False) (fun _ => False) X w0 w' X' := by
 obtain ⟨Aw, cw, okw, rfl⟩ := hX
 refine calls_of_wp Tryd.func10 rfl ?_
 have hF := Fr.enter #[.pointer (some ⟨bb, 0, none⟩), .int .i64 n] 25 (slotsOf [.pointer (some ⟨bb, 0, none⟩), .int .i64 n] 0) (Nat.le_of_ble_eq_true rfl) (fun i v h => by have h2 := (get_slotsOf _ 0 i v h).2; simpa only [List.getElem?_toArray, Nat.sub_zero] using h2)
 rw [Tryd.ntmps10]
 revert hF; generalize (⟨(#[.pointer (some ⟨bb, 0, none⟩), .int .i64 n] : Array Value) ++ Array.replicate (25 - (#[.pointer (some ⟨bb, 0, none⟩), .int .i64 n] : Array Value).size) undef, []⟩ : Act) = a; intro hF
 have hH := Hp.ofAll hok.holds
 have hfew := hs.few
 have hwl := wy_len s.ways
 refine wp_seq_k fun khK1 hK1 => ?_
 refine wp_region_lit ?_
 refine l_at hF rfl rfl rfl (x_assign rfl) ?_; clear hF; intro a hF
 refine wpList_nil ?_
 refine hK1 _ _ ?_
 refine wp_seq_k fun khK2 hK2 => ?_
 refine wp_seq_k fun khK3 hK3 => ?_
 refine wp_region_lit ?_
 refine l_at hF rfl rfl rfl (x_move (hF.tmp 0 rfl)) ?_; clear hF; intro a hF
 refine l_at hF rfl rfl rfl (x_ptrnil Tryd.underlying23 (hF.tmp 5 rfl) rfl) ?_; clear hF; intro a hF
 refine l_at hF rfl rfl rfl (x_move (hF.tmp 6 rfl)) ?_; clear hF; intro a hF
 refine l_atg hF ((wanted_of hF rfl rfl rfl rfl).trans rfl) rfl rfl (x_move (hF.tmp 1 rfl)) ?_; clear hF; intro a hF
 refine l_atg hF ((wanted_of hF rfl rfl rfl rfl).trans rfl) rfl rfl (x_lss (hF.tmp 8 rfl) rfl) ?_; clear hF; intro a hF
 refine l_at hF rfl rfl rfl (x_pickF (hF.tmp 7 rfl) rfl (hF.tmp 9 rfl)) ?_; clear hF; intro a hF
 refine l_at hF rfl rfl rfl (x_move (hF.tmp 10 rfl)) ?_; clear hF; intro a hF
 refine split_bool hF 11 rfl (fun hb11 => ?_) (fun hb11 => ?_)
 ·have hc11 := hb11; try simp only [Bool.or_eq_true, Bool.and_eq_true, Bool.or_eq_false_iff, Bool.and_eq_false_iff, Bool.not_eq_true', Bool.not_eq_false', decide_eq_true_eq, decide_eq_false_iff_not, Bool.not_true, Bool.not_false] at hc11
  have hno := rest_no (s := s) (in8_neg hc11)
  refine l_offg hF ((wanted_of hF rfl rfl rfl rfl).trans (by rw [hb11]; rfl)) rfl rfl ?_; clear hF; intro a hF
  refine l_offg hF ((wanted_of hF rfl rfl rfl rfl).trans (by rw [hb11]; rfl)) rfl rfl ?_; clear hF; intro a hF
  refine l_at hF rfl rfl rfl (x_pickT (hF.tmp 11 rfl) hb11 rfl) ?_; clear hF; intro a hF
  refine wpList_nil ?_
  refine hK3 _ _ ?_
  refine wp_cond_true (hF.tmp 14 rfl) ?_
  refine wp_seq_k fun khK4 hK4 => ?_
  refine wp_region_lit ?_
  refine l_at hF rfl rfl rfl (x_assign rfl) ?_; clear hF; intro a hF
  refine wpList_nil ?_
  refine hK4 _ _ ?_
  refine wp_ret ?_
  try simp only [Exit.then, Exit.inBlock]
  have hE_ := hno.1
  have hM_ := hno.2.1
  refine fin_ret hF (res1 hF rfl rfl) ⟨Asn.all [(1, .blk bb (.cells #[.slice Aw (wy s.ways).length cw, .int .i64 (gi s.eps 0), .int .i64 (gi s.eps 1), .int .i64 (gi s.eps 2), .int .i64 (gi s.eps 3), .int .i64 (gi s.eps 4), .int .i64 (gi s.eps 5), .int .i64 (gi s.eps 6), .int .i64 (gi s.eps 7), .int .i64 s.lost] 51 (0, 0))), (2, .row WayE 58 (.slice Aw (wy s.ways).length cw) (wy s.ways) okw)], by rw [hE_] <;> rfl, by rw [hM_]; exact ⟨_, _, _, rfl⟩, grew_of (hH.sub [(1, .blk bb (.cells #[.slice Aw (wy s.ways).length cw, .int .i64 (gi s.eps 0), .int .i64 (gi s.eps 1), .int .i64 (gi s.eps 2), .int .i64 (gi s.eps 3), .int .i64 (gi s.eps 4), .int .i64 (gi s.eps 5), .int .i64 (gi s.eps 6), .int .i64 (gi s.eps 7), .int .i64 s.lost] 51 (0, 0))), (2, .row WayE 58 (.slice Aw (wy s.ways).length cw) (wy s.ways) okw)] (sub_cons (sub_cons (sub_nil _) 2 rfl) 1 rfl)) (rdin_cons (fun k h => h.elim) (rdin_cons (fun k h => .inr (.inl ⟨2, _, rfl, h⟩)) rdin_nil))⟩
 ·have hc11 := hb11; try simp only [Bool.or_eq_true, Bool.and_eq_true, Bool.or_eq_false_iff, Bool.and_eq_false_iff, Bool.not_eq_true', Bool.not_eq_false', decide_eq_true_eq, decide_eq_false_iff_not, Bool.not_true, Bool.not_false] at hc11
  refine l_atg hF ((wanted_of hF rfl rfl rfl rfl).trans (by rw [hb11]; rfl)) rfl rfl (x_move (hF.tmp 1 rfl)) ?_; clear hF; intro a hF
  refine l_atg hF ((wanted_of hF rfl rfl rfl rfl).trans (by rw [hb11]; rfl)) rfl rfl (x_geq (hF.tmp 12 rfl) rfl) ?_; clear hF; intro a hF
  refine l_at hF rfl rfl rfl (x_pickF (hF.tmp 11 rfl) hb11 (hF.tmp 13 rfl)) ?_; clear hF; intro a hF
  refine wpList_nil ?_
  refine hK3 _ _ ?_
  refine wp_cond_split (hF.tmp 14 rfl) (fun hc14 => ?_) (fun hc14 => ?_)
  ·have hk14_1 := hc14; try simp only [Bool.or_eq_true, Bool.and_eq_true, Bool.or_eq_false_iff, Bool.and_eq_false_iff, Bool.not_eq_true', Bool.not_eq_false', decide_eq_true_eq, decide_eq_false_iff_not, Bool.not_true, Bool.not_false] at hc14
   have hno := rest_no (s := s) (in8_big hc14)
   refine wp_seq_k fun khK5 hK5 => ?_
   refine wp_region_lit ?_
   refine l_at hF rfl rfl rfl (x_assign rfl) ?_; clear hF; intro a hF
   refine wpList_nil ?_
   refine hK5 _ _ ?_
   refine wp_ret ?_
   try simp only [Exit.then, Exit.inBlock]
   have hE_ := hno.1
   have hM_ := hno.2.1
   refine fin_ret hF (res1 hF rfl rfl) ⟨Asn.all [(1, .blk bb (.cells #[.slice Aw (wy s.ways).length cw, .int .i64 (gi s.eps 0), .int .i64 (gi s.eps 1), .int .i64 (gi s.eps 2), .int .i64 (gi s.eps 3), .int .i64 (gi s.eps 4), .int .i64 (gi s.eps 5), .int .i64 (gi s.eps 6), .int .i64 (gi s.eps 7), .int .i64 s.lost] 51 (0, 0))), (2, .row WayE 58 (.slice Aw (wy s.ways).length cw) (wy s.ways) okw)], by rw [hE_] <;> rfl, by rw [hM_]; exact ⟨_, _, _, rfl⟩, grew_of (hH.sub [(1, .blk bb (.cells #[.slice Aw (wy s.ways).length cw, .int .i64 (gi s.eps 0), .int .i64 (gi s.eps 1), .int .i64 (gi s.eps 2), .int .i64 (gi s.eps 3), .int .i64 (gi s.eps 4), .int .i64 (gi s.eps 5), .int .i64 (gi s.eps 6), .int .i64 (gi s.eps 7), .int .i64 s.lost] 51 (0, 0))), (2, .row WayE 58 (.slice Aw (wy s.ways).length cw) (wy s.ways) okw)] (sub_cons (sub_cons (sub_nil _) 2 rfl) 1 rfl)) (rdin_cons (fun k h => h.elim) (rdin_cons (fun k h => .inr (.inl ⟨2, _, rfl, h⟩)) rdin_nil))⟩
  ·have hk14_2 := hc14; try simp only [Bool.or_eq_true, Bool.and_eq_true, Bool.or_eq_false_iff, Bool.and_eq_false_iff, Bool.not_eq_true', Bool.not_eq_false', decide_eq_true_eq, decide_eq_false_iff_not, Bool.not_true, Bool.not_false] at hc14
   have hyes := rest_yes (s := s) (in8_yes hc11 hc14)
   refine wp_skip ?_
   refine hK2 _ _ ?_
   refine wp_seq_k fun khK6 hK6 => ?_
   have hJr3 : ∀ a w, Fr 25 a [] → Hp (OwnL [(1, .blk bb (.cells #[.slice Aw (wy s.ways).length cw, .int .i64 (gi s.eps 0), .int .i64 (gi s.eps 1), .int .i64 (gi s.eps 2), .int .i64 (gi s.eps 3), .int .i64 (gi s.eps 4), .int .i64 (gi s.eps 5), .int .i64 (gi s.eps 6), .int .i64 (gi s.eps 7), .int .i64 s.lost] 51 (0, 0))), (2, .row WayE 58 (.slice Aw (wy s.ways).length cw) (wy s.ways) okw)]) w0 w [(1, .blk bb (.cells #[.slice Aw (wy s.ways).length cw, .int .i64 (gi (s.eps.set n.toNat (w64I (gi s.eps n + 1))) 0), .int .i64 (gi (s.eps.set n.toNat (w64I (gi s.eps n + 1))) 1), .int .i64 (gi (s.eps.set n.toNat (w64I (gi s.eps n + 1))) 2), .int .i64 (gi (s.eps.set n.toNat (w64I (gi s.eps n + 1))) 3), .int .i64 (gi (s.eps.set n.toNat (w64I (gi s.eps n + 1))) 4), .int .i64 (gi (s.eps.set n.toNat (w64I (gi s.eps n + 1))) 5), .int .i64 (gi (s.eps.set n.toNat (w64I (gi s.eps n + 1))) 6), .int .i64 (gi (s.eps.set n.toNat (w64I (gi s.eps n + 1))) 7), .int .i64 s.lost] 51 (0, 0))), (2, .row WayE 58 (.slice Aw (wy s.ways).length cw) (wy s.ways) okw)] → khK6 a w := by
    intro a w  hF hH
    refine hK6 a w ?_
    refine wp_seq_k fun khK7 hK7 => ?_
    refine wp_region_lit ?_
    refine l_at hF rfl rfl rfl (x_assign rfl) ?_; clear hF; intro a hF
    refine wpList_nil ?_
    refine hK7 _ _ ?_
    refine wp_ret ?_
    try simp only [Exit.then, Exit.inBlock]
    have hE_ := hyes.1
    have hM_ := hyes.2.1
    refine fin_ret hF (res1 hF rfl rfl) ⟨Asn.all [(1, .blk bb (.cells #[.slice Aw (wy s.ways).length cw, .int .i64 (gi (s.eps.set n.toNat (w64I (gi s.eps n + 1))) 0), .int .i64 (gi (s.eps.set n.toNat (w64I (gi s.eps n + 1))) 1), .int .i64 (gi (s.eps.set n.toNat (w64I (gi s.eps n + 1))) 2), .int .i64 (gi (s.eps.set n.toNat (w64I (gi s.eps n + 1))) 3), .int .i64 (gi (s.eps.set n.toNat (w64I (gi s.eps n + 1))) 4), .int .i64 (gi (s.eps.set n.toNat (w64I (gi s.eps n + 1))) 5), .int .i64 (gi (s.eps.set n.toNat (w64I (gi s.eps n + 1))) 6), .int .i64 (gi (s.eps.set n.toNat (w64I (gi s.eps n + 1))) 7), .int .i64 s.lost] 51 (0, 0))), (2, .row WayE 58 (.slice Aw (wy s.ways).length cw) (wy s.ways) okw)], by rw [hE_] <;> rfl, by rw [hM_]; exact ⟨_, _, _, rfl⟩, grew_of (hH.sub [(1, .blk bb (.cells #[.slice Aw (wy s.ways).length cw, .int .i64 (gi (s.eps.set n.toNat (w64I (gi s.eps n + 1))) 0), .int .i64 (gi (s.eps.set n.toNat (w64I (gi s.eps n + 1))) 1), .int .i64 (gi (s.eps.set n.toNat (w64I (gi s.eps n + 1))) 2), .int .i64 (gi (s.eps.set n.toNat (w64I (gi s.eps n + 1))) 3), .int .i64 (gi (s.eps.set n.toNat (w64I (gi s.eps n + 1))) 4), .int .i64 (gi (s.eps.set n.toNat (w64I (gi s.eps n + 1))) 5), .int .i64 (gi (s.eps.set n.toNat (w64I (gi s.eps n + 1))) 6), .int .i64 (gi (s.eps.set n.toNat (w64I (gi s.eps n + 1))) 7), .int .i64 s.lost] 51 (0, 0))), (2, .row WayE 58 (.slice Aw (wy s.ways).length cw) (wy s.ways) okw)] (sub_cons (sub_cons (sub_nil _) 2 rfl) 1 rfl)) (rdin_cons (fun k h => h.elim) (rdin_cons (fun k h => .inr (.inl ⟨2, _, rfl, h⟩)) rdin_nil))⟩
   refine r_start [] (by kernel_rfl) hH fun hH => ?_
   have hS : SL [] _ := SL.of hH (sub_nil _)
   refine r_take 0 hF rfl rfl rfl (by kernel_rfl) (by kernel_rfl) (by kernel_rfl) (fun _ _ _ h => h) rfl hS (fun w hS => x_move (hF.tmp 0 rfl)) rfl ?_; clear hF; intro a hF
   refine r_take 1 hF rfl rfl rfl (by kernel_rfl) (by kernel_rfl) (by kernel_rfl) (fun _ _ _ h => h) rfl hS (fun w hS => x_move (hF.tmp 1 rfl)) rfl ?_; clear hF; intro a hF
   refine r_take 2 hF rfl rfl rfl (by kernel_rfl) (by kernel_rfl) (by kernel_rfl) (fun _ _ _ h => h) rfl hS (fun w hS => x_nil (hF.tmp 15 rfl)) rfl ?_; clear hF; intro a hF
   refine r_take 3 hF rfl rfl rfl (by kernel_rfl) (by kernel_rfl) (by kernel_rfl) (fun _ _ _ h => h) rfl hS (fun w hS => x_faddr Tryd.underlying51 rfl ty49 (by decide) (hF.tmp 17 rfl) rfl) rfl ?_; clear hF; intro a hF
   refine r_take 4 hF rfl rfl rfl (by kernel_rfl) (by kernel_rfl) (by kernel_rfl) (fun _ _ _ h => h) rfl hS (fun w hS => x_iaddr_arr Tryd.underlying49 ty3 (hF.tmp 18 rfl) (hF.tmp 16 rfl) (by omega) (by omega)) rfl ?_; clear hF; intro a hF
   refine r_take 7 hF rfl rfl rfl (by kernel_rfl) (by kernel_rfl) (by kernel_rfl) (fun _ _ _ h => h) rfl hS (fun w hS => x_nil (hF.tmp 15 rfl)) rfl ?_; clear hF; intro a hF
   refine r_take 8 hF rfl rfl rfl (by kernel_rfl) (by kernel_rfl) (by kernel_rfl) (fun _ _ _ h => h) rfl hS (fun w hS => x_faddr Tryd.underlying51 rfl ty49 (by decide) (hF.tmp 22 rfl) rfl) rfl ?_; clear hF; intro a hF
   refine r_do 5 rfl (by kernel_rfl) rfl rfl ?_
   refine w_at hF (x_load1 ty3 (hF.tmp 19 rfl) (blk_cell (hH.at 1 rfl) _ (eps_at (by omega) (by omega)))) rfl rfl ?_
   clear hF; intro a hF
   clear hS; have hS : SL _ _ := SL.of hH (sub_nil _); refine ⟨hS, ?_⟩
   refine r_take 6 hF rfl rfl rfl (by kernel_rfl) (by kernel_rfl) (by kernel_rfl) (fun _ _ _ h => h) rfl hS (fun w hS => x_add (hF.tmp 20 rfl) rfl rfl) rfl ?_; clear hF; intro a hF
   refine r_take 9 hF rfl rfl rfl (by kernel_rfl) (by kernel_rfl) (by kernel_rfl) (fun _ _ _ h => h) rfl hS (fun w hS => x_iaddr_arr Tryd.underlying49 ty3 (hF.tmp 23 rfl) (hF.tmp 16 rfl) (by omega) (by omega)) rfl ?_; clear hF; intro a hF
   refine r_do 10 rfl (by kernel_rfl) rfl rfl ?_
   refine w_store 1 hH ty3 rfl (hF.tmp 24 rfl) (hF.tmp 21 rfl) rfl (one1 rfl rfl) (by show 1 + n.toNat * 1 + 1 ≤ 10; omega) ?_
   clear hH; intro w hH
   clear hS; have hS : SL _ _ := SL.of hH (sub_nil _); refine ⟨hS, ?_⟩
   have hH : Hp _ w0 w ((1, .blk bb (.cells (spl #[.slice Aw (wy s.ways).length cw, .int .i64 (gi s.eps 0), .int .i64 (gi s.eps 1), .int .i64 (gi s.eps 2), .int .i64 (gi s.eps 3), .int .i64 (gi s.eps 4), .int .i64 (gi s.eps 5), .int .i64 (gi s.eps 6), .int .i64 (gi s.eps 7), .int .i64 s.lost] (1 + n.toNat * 1) (Value.int .i64 (w64I (gi s.eps n + 1))).cells) 51 (0, 0))) :: _) := hH
   rw [eps_set hs.eps (by omega) (by omega)] at hH
   refine r_end (by kernel_rfl) ?_; clear hS
   exact hJr3 _ _  hF.bare (hH.sub _ (sub_cons (sub_cons (sub_nil _) 2 rfl) 1 rfl))
set_option maxRecDepth 100000 in
set_option maxHeartbeats 1000000 in
theorem look_calls (w0 : World) (hL : LibAt true w0) {X : Asn} {bb : Nat} {s : BagS} (hX : BagA 51 58 bb s X) (hok : X.ok w0) (hs : BagOk s) (i : Int) : Calls Tryd.prog 19 #[.pointer (some ⟨bb, 0, none⟩), .int .i64 i] w0 fun e w' => ∃ (An : Option Addr) (cn : Nat) (Ac : Option Addr) (cc : Nat) (okm : Nat → Prop), e = .returned (.tuple #[.agg #[.int .i64 (lookM s i).kind, .int .i64 (lookM s i).src, .int .i64 (lookM s i).dst, .int .i64 (lookM s i).tx, .slice An (lookM s i).nodes.length cn, .slice Ac (lookM s i).changes.length cc], .int .i64 (lookE s i)]) ∧ Mods (fun _ => False) w0 w' ∧ (Rd (.int .i64) w' okm An (lookM s i).nodes cn ∧ Rd ChgE w' okm Ac (lookM s i).changes cc) ∧ (∀ k, okm k → w0.heap.size ≤ k ∧ k < w'.heap.size) := by
 obtain ⟨Aw, cw, okw, rfl⟩ := hX
 refine calls_of_wp Tryd.func19 rfl ?_
 have hF := Fr.enter #[.pointer (some ⟨bb, 0, none⟩), .int .i64 i] 33 (slotsOf [.pointer (some ⟨bb, 0, none⟩), .int .i64 i] 0) (Nat.le_of_ble_eq_true rfl) (fun i v h => by have h2 := (get_slotsOf _ 0 i v h).2; simpa only [List.getElem?_toArray, Nat.sub_zero] using h2)
 rw [Tryd.ntmps19]
 revert hF; generalize (⟨(#[.pointer (some ⟨bb, 0, none⟩), .int .i64 i] : Array Value) ++ Array.replicate (33 - (#[.pointer (some ⟨bb, 0, none⟩), .int .i64 i] : Array Value).size) undef, []⟩ : Act) = a; intro hF
 have hH := two_ro hok.holds
 have hfew := hs.few
 have hwl := wy_len s.ways
 have hH := hH.addro 3 (.rd_ WayE Aw (wy s.ways) cw (fun k => (Asn.row WayE 58 (.slice Aw (wy s.ways).length cw) (wy s.ways) okw).own k ∨ (Asn.row WayE 58 (.slice Aw (wy s.ways).length cw) (wy s.ways) okw).rd k)) (fun _ h => h) (row_ro (hH.holds 2 _ rfl)) (fun k hk => ⟨2, _, rfl, hk⟩)
 have hH := hH.lib 990 hL (fun j Y hY k hk hk2 => by rcases Sx.get_one hY with ⟨_, rfl⟩ | ⟨_, h⟩; exact hk; rcases Sx.get_one h with ⟨_, rfl⟩ | ⟨_, h⟩; exact hk; rcases Sx.get_one h with ⟨_, rfl⟩ | ⟨_, h⟩; exact hk; simp [Sx.get] at h)
 refine wp_seq_k fun khK1 hK1 => ?_
 refine wp_region_lit ?_
 refine wpList_plain rfl fun K hK => ?_
 refine w_alloc 4 hF hH rfl ty30 ?_
 clear hF hH; intro a w b4 hF hH
 refine hK _ _ ?_; clear hK K
 refine l_at hF rfl rfl rfl (x_assign rfl) ?_; clear hF; intro a hF
 refine wpList_nil ?_
 refine hK1 _ _ ?_
 refine wp_seq_k fun khK2 hK2 => ?_
 refine wp_seq_k fun khK3 hK3 => ?_
 refine wp_region_lit ?_
 refine l_at hF rfl rfl rfl (x_move (hF.tmp 0 rfl)) ?_; clear hF; intro a hF
 refine l_at hF rfl rfl rfl (x_ptrnil Tryd.underlying23 (hF.tmp 6 rfl) rfl) ?_; clear hF; intro a hF
 refine l_at hF rfl rfl rfl (x_move (hF.tmp 7 rfl)) ?_; clear hF; intro a hF
 refine l_atg hF ((wanted_of hF rfl rfl rfl rfl).trans rfl) rfl rfl (x_move (hF.tmp 1 rfl)) ?_; clear hF; intro a hF
 refine l_atg hF ((wanted_of hF rfl rfl rfl rfl).trans rfl) rfl rfl (x_lss (hF.tmp 9 rfl) rfl) ?_; clear hF; intro a hF
 refine l_at hF rfl rfl rfl (x_pickF (hF.tmp 8 rfl) rfl (hF.tmp 10 rfl)) ?_; clear hF; intro a hF
 refine l_at hF rfl rfl rfl (x_move (hF.tmp 11 rfl)) ?_; clear hF; intro a hF
 refine split_bool hF 12 rfl (fun hb12 => ?_) (fun hb12 => ?_)
 ·have hc12 := hb12; try simp only [Bool.or_eq_true, Bool.and_eq_true, Bool.or_eq_false_iff, Bool.and_eq_false_iff, Bool.not_eq_true', Bool.not_eq_false', decide_eq_true_eq, decide_eq_false_iff_not, Bool.not_true, Bool.not_false] at hc12
  have hno := look_no (s := s) (isW_neg hc12)
  refine l_offg hF ((wanted_of hF rfl rfl rfl rfl).trans (by rw [hb12]; rfl)) rfl rfl ?_; clear hF; intro a hF
  refine l_offg hF ((wanted_of hF rfl rfl rfl rfl).trans (by rw [hb12]; rfl)) rfl rfl ?_; clear hF; intro a hF
  refine l_offg hF ((wanted_of hF rfl rfl rfl rfl).trans (by rw [hb12]; rfl)) rfl rfl ?_; clear hF; intro a hF
  refine l_offg hF ((wanted_of hF rfl rfl rfl rfl).trans (by rw [hb12]; rfl)) rfl rfl ?_; clear hF; intro a hF
  refine l_offg hF ((wanted_of hF rfl rfl rfl rfl).trans (by rw [hb12]; rfl)) rfl rfl ?_; clear hF; intro a hF
  refine l_offg hF ((wanted_of hF rfl rfl rfl rfl).trans (by rw [hb12]; rfl)) rfl rfl ?_; clear hF; intro a hF
  refine l_offg hF ((wanted_of hF rfl rfl rfl rfl).trans (by rw [hb12]; rfl)) rfl rfl ?_; clear hF; intro a hF
  refine l_at hF rfl rfl rfl (x_pickT (hF.tmp 12 rfl) hb12 rfl) ?_; clear hF; intro a hF
  refine wpList_nil ?_
  refine hK3 _ _ ?_
  refine wp_cond_true (hF.tmp 20 rfl) ?_
  refine wp_seq_k fun khK4 hK4 => ?_
  refine wp_region_lit ?_
  refine l_at hF rfl rfl rfl (x_buildS (cells := #[.int .i64 0, .int .i64 0, .int .i64 0, .int .i64 0, .slice none 0 0, .slice none 0 0]) (places := #[(0, 1), (1, 1), (2, 1), (3, 1), (4, 1), (5, 1)]) Tryd.underlying30 ty30 (by kernel_rfl) Array.map_empty rfl) ?_; clear hF; intro a hF
  refine wpList_plain rfl fun K hK => ?_
  refine w_storeA 4 hH ty30 rfl (hF.tmp 4 rfl) (hF.tmp 21 rfl) rfl (by simp [Value.cells, Value.oneCell']) rfl ?_
  clear hH; intro w hH
  refine hK _ _ ?_; clear hK K
  refine l_at hF rfl rfl rfl (x_assign rfl) ?_; clear hF; intro a hF
  refine wpList_nil ?_
  refine hK4 _ _ ?_
  refine wp_ret ?_
  try simp only [Exit.then, Exit.inBlock]
  exact fin_ret hF (resct hF rfl rfl rfl (hH.at 4 rfl) ty30 rfl) ⟨none, 0, none, 0, (fun _ => False), by rw [hno.1, hno.2.1] <;> rfl, hH.mods, by rw [hno.1]; exact ⟨Rd.nil _ _ _, Rd.nil _ _ _⟩, (fun k h => h.elim)⟩
 ·have hc12 := hb12; try simp only [Bool.or_eq_true, Bool.and_eq_true, Bool.or_eq_false_iff, Bool.and_eq_false_iff, Bool.not_eq_true', Bool.not_eq_false', decide_eq_true_eq, decide_eq_false_iff_not, Bool.not_true, Bool.not_false] at hc12
  refine l_atg hF ((wanted_of hF rfl rfl rfl rfl).trans (by rw [hb12]; rfl)) rfl rfl (x_move (hF.tmp 1 rfl)) ?_; clear hF; intro a hF
  refine l_atg hF ((wanted_of hF rfl rfl rfl rfl).trans (by rw [hb12]; rfl)) rfl rfl (x_move (hF.tmp 0 rfl)) ?_; clear hF; intro a hF
  refine l_atg hF ((wanted_of hF rfl rfl rfl rfl).trans (by rw [hb12]; rfl)) rfl rfl (x_nil (hF.tmp 14 rfl)) ?_; clear hF; intro a hF
  refine l_atg hF ((wanted_of hF rfl rfl rfl rfl).trans (by rw [hb12]; rfl)) rfl rfl (x_faddr Tryd.underlying51 rfl ty48 (by decide) (hF.tmp 15 rfl) rfl) ?_; clear hF; intro a hF
  refine l_atg hF ((wanted_of hF rfl rfl rfl rfl).trans (by rw [hb12]; rfl)) rfl rfl (x_load1 ty48 (hF.tmp 16 rfl) (blk_cell (hH.atro 1 rfl) 0 rfl)) ?_; clear hF; intro a hF
  refine l_atg hF ((wanted_of hF rfl rfl rfl rfl).trans (by rw [hb12]; rfl)) rfl rfl (x_len_slice Tryd.underlying48 (hF.tmp 17 rfl)) ?_; clear hF; intro a hF
  refine l_atg hF ((wanted_of hF rfl rfl rfl rfl).trans (by rw [hb12]; rfl)) rfl rfl (x_geq (hF.tmp 13 rfl) (hF.tmp 18 rfl)) ?_; clear hF; intro a hF
  refine l_at hF rfl rfl rfl (x_pickF (hF.tmp 12 rfl) hb12 (hF.tmp 19 rfl)) ?_; clear hF; intro a hF
  refine wpList_nil ?_
  refine hK3 _ _ ?_
  refine wp_cond_split (hF.tmp 20 rfl) (fun hc20 => ?_) (fun hc20 => ?_)
  ·have hk20_1 := hc20; try simp only [Bool.or_eq_true, Bool.and_eq_true, Bool.or_eq_false_iff, Bool.and_eq_false_iff, Bool.not_eq_true', Bool.not_eq_false', decide_eq_true_eq, decide_eq_false_iff_not, Bool.not_true, Bool.not_false] at hc20
   have hno := look_no (s := s) (isW_big (s := s) (i := i) (by omega))
   refine wp_seq_k fun khK5 hK5 => ?_
   refine wp_region_lit ?_
   refine l_at hF rfl rfl rfl (x_buildS (cells := #[.int .i64 0, .int .i64 0, .int .i64 0, .int .i64 0, .slice none 0 0, .slice none 0 0]) (places := #[(0, 1), (1, 1), (2, 1), (3, 1), (4, 1), (5, 1)]) Tryd.underlying30 ty30 (by kernel_rfl) Array.map_empty rfl) ?_; clear hF; intro a hF
   refine wpList_plain rfl fun K hK => ?_
   refine w_storeA 4 hH ty30 rfl (hF.tmp 4 rfl) (hF.tmp 21 rfl) rfl (by simp [Value.cells, Value.oneCell']) rfl ?_
   clear hH; intro w hH
   refine hK _ _ ?_; clear hK K
   refine l_at hF rfl rfl rfl (x_assign rfl) ?_; clear hF; intro a hF
   refine wpList_nil ?_
   refine hK5 _ _ ?_
   refine wp_ret ?_
   try simp only [Exit.then, Exit.inBlock]
   exact fin_ret hF (resct hF rfl rfl rfl (hH.at 4 rfl) ty30 rfl) ⟨none, 0, none, 0, (fun _ => False), by rw [hno.1, hno.2.1] <;> rfl, hH.mods, by rw [hno.1]; exact ⟨Rd.nil _ _ _, Rd.nil _ _ _⟩, (fun k h => h.elim)⟩
  ·have hk20_2 := hc20; try simp only [Bool.or_eq_true, Bool.and_eq_true, Bool.or_eq_false_iff, Bool.and_eq_false_iff, Bool.not_eq_true', Bool.not_eq_false', decide_eq_true_eq, decide_eq_false_iff_not, Bool.not_true, Bool.not_false] at hc20
   refine wp_skip ?_
   refine hK2 _ _ ?_
   refine wp_seq_k fun khK6 hK6 => ?_
   refine wp_region_lit ?_
   refine l_at hF rfl rfl rfl (x_move (hF.tmp 0 rfl)) ?_; clear hF; intro a hF
   refine l_at hF rfl rfl rfl (x_nil (hF.tmp 22 rfl)) ?_; clear hF; intro a hF
   refine l_at hF rfl rfl rfl (x_faddr Tryd.underlying51 rfl ty48 (by decide) (hF.tmp 23 rfl) rfl) ?_; clear hF; intro a hF
   refine l_at hF rfl rfl rfl (x_load1 ty48 (hF.tmp 24 rfl) (blk_cell (hH.atro 1 rfl) 0 rfl)) ?_; clear hF; intro a hF
   refine l_at hF rfl rfl rfl (x_move (hF.tmp 1 rfl)) ?_; clear hF; intro a hF
   have hyes := isW_yes (s := s) (i := i) (by omega) (by omega)
   obtain ⟨fA1, fc1, hfr1, hf1_0, hf1_1, hfw1⟩ := rd_way ((hH.rd 3 rfl)) (gway_some (xs := (wy s.ways)) (i := i) (by omega) (by omega))
   have hH := hH.subrd 3 rfl 1000 hfr1 (fun _ h => h)
   have hH := hH.subcels 3 rfl 1499 hfw1 (Rd.inok ((hH.rd 3 rfl)) (by omega) _)
   have hH := hH.subcel 3 rfl 1500 hf1_0 (Rd.inok ((hH.rd 3 rfl)) (by omega) _)
   have hH := hH.subcel 3 rfl 1501 hf1_1 (Rd.inok ((hH.rd 3 rfl)) (by omega) _)
   refine l_at hF rfl rfl rfl (x_iaddr_A Tryd.underlying48 ty58 ((hH.rd 3 rfl)) (hF.tmp 25 rfl) (hF.tmp 26 rfl) (by omega) (by omega) _) ?_; clear hF; intro a hF
   refine l_at hF rfl rfl rfl (x_faddrA ((hH.rd 3 rfl)) (by omega) _ Tryd.underlying58 rfl ty53 (by decide) (hF.tmp 27 rfl) rfl) ?_; clear hF; intro a hF
   refine l_at hF rfl rfl rfl (x_load1 ty53 (hF.tmp 28 rfl) (hH.holds 1500 _ rfl)) ?_; clear hF; intro a hF
   have hsz_ := hH.mods.size
   refine wpList_plain rfl fun K hK => ?_
   refine w_call hF (x_enter Tryd.func25 (by kernel_rfl) rfl (by simp only [List.map_toArray, List.map_cons, List.map_nil, hF.tmp 29 rfl] <;> rfl)) (decM_calls (bs := (gway (wy s.ways) i).b) _ (hH.holds 990 _ rfl) ((hH.rd 1000 rfl)) (by rw [gway_wy hyes]; exact encM_byte (hs.all _ (idW_mem hyes).1).2)) rfl rfl ?_
   rintro _ w ⟨z, An, cn, Ac, cc, okm, g, rfl, hm_, h1_, h2_, hf_, hD⟩; refine ⟨_, rfl, ?_⟩; clear hF; intro a hF; have h3_ := (hH.same hm_).rdNew 70 (fun i A' hA k hk => hH.inb i A' hA k (.inl hk)) h1_ hf_; have hH := (h3_.1.rdNew 71 h3_.2 h2_ hf_).1; have hf3_ : ∀ k, okm k → w0.heap.size ≤ k := fun k h => Nat.le_trans hsz_ (hf_ k h).1
   refine hK _ _ ?_; clear hK K
   refine l_at hF rfl rfl rfl (x_extract (hF.tmp 30 rfl) rfl) ?_; clear hF; intro a hF
   refine l_at hF rfl rfl rfl (x_extract (hF.tmp 30 rfl) rfl) ?_; clear hF; intro a hF
   refine wpList_plain rfl fun K hK => ?_
   refine w_storeA 4 hH ty30 rfl (hF.tmp 4 rfl) (hF.tmp 31 rfl) rfl (by simp [Value.cells, Value.oneCell']) rfl ?_
   clear hH; intro w hH
   refine hK _ _ ?_; clear hK K
   refine l_at hF rfl rfl rfl (x_assign (hF.tmp 32 rfl)) ?_; clear hF; intro a hF
   refine wpList_nil ?_
   refine hK6 _ _ ?_
   refine wp_ret ?_
   try simp only [Exit.then, Exit.inBlock]
   rw [gway_wy hyes] at hD
   obtain ⟨hg, hz⟩ := hD.of (hs.all _ (idW_mem hyes).1).1 (hs.all _ (idW_mem hyes).1).2 rfl
   have hy1 := (look_yes hyes).1
   have hy2 := (look_yes hyes).2.1
   subst hz
   exact fin_ret hF (resct hF rfl rfl rfl (hH.at 4 rfl) ty30 rfl) ⟨An, cn, Ac, cc, okm, by rw [hy1, hy2, hg] <;> rfl, hH.mods, by rw [hy1]; exact ⟨hH.rd 70 rfl, hH.rd 71 rfl⟩, (fun k h => ⟨hf3_ k h, hH.inb 70 _ rfl k (.inr h)⟩)⟩
set_option maxRecDepth 100000 in
set_option maxHeartbeats 1000000 in
theorem send_calls (w0 : World) (hL : LibAt true w0) {X : Asn} {bb : Nat} {s : BagS} (hX : BagA 51 58 bb s X) (hok : X.ok w0) (hs : BagOk s) (hLX : ∀ k, (Asn.lib true).rd k → ¬ X.own k) {m : MessageD} {okm0 : Nat → Prop} {Am0 : Option Addr} {cm0 : Nat} (hrm0 : Rd (Rep.int .i64) w0 okm0 Am0 m.nodes cm0) {okm1 : Nat → Prop} {Am1 : Option Addr} {cm1 : Nat} (hrm1 : Rd ChgE w0 okm1 Am1 m.changes cm1) (hb : MessageB m) (hin0 : ∀ k, okm0 k → k < w0.heap.size) (hin1 : ∀ k, okm1 k → k < w0.heap.size) (hap0 : ∀ k, okm0 k → ¬ X.own k) (hap1 : ∀ k, okm1 k → ¬ X.own k) : Calls Tryd.prog 9 #[.pointer (some ⟨bb, 0, none⟩), .agg #[.int .i64 m.kind, .int .i64 m.src, .int .i64 m.dst, .int .i64 m.tx, .slice Am0 m.nodes.length cm0, .slice Am1 m.changes.length cm1]] w0 fun e w' => ∃ X', e = .returned (.int .i64 (sendE s m)) ∧ BagA 51 58 bb (sendS s m) X' ∧ Grew (fun _ => False) (fun _ => False) X w0 w' X' := by
 refine calls_of_wp Tryd.func9 rfl ?_
 have hF := Fr.enter #[.pointer (some ⟨bb, 0, none⟩), .agg #[.int .i64 m.kind, .int .i64 m.src, .int .i64 m.dst, .int .i64 m.tx, .slice Am0 m.nodes.length cm0, .slice Am1 m.changes.length cm1]] 28 (slotsOf [.pointer (some ⟨bb, 0, none⟩), .agg #[.int .i64 m.kind, .int .i64 m.src, .int .i64 m.dst, .int .i64 m.tx, .slice Am0 m.nodes.length cm0, .slice Am1 m.changes.length cm1]] 0) (Nat.le_of_ble_eq_true rfl) (fun i v h => by have h2 := (get_slotsOf _ 0 i v h).2; simpa only [List.getElem?_toArray, Nat.sub_zero] using h2)
 rw [Tryd.ntmps9]
 revert hF; generalize (⟨(#[.pointer (some ⟨bb, 0, none⟩), .agg #[.int .i64 m.kind, .int .i64 m.src, .int .i64 m.dst, .int .i64 m.tx, .slice Am0 m.nodes.length cm0, .slice Am1 m.changes.length cm1]] : Array Value) ++ Array.replicate (28 - (#[.pointer (some ⟨bb, 0, none⟩), .agg #[.int .i64 m.kind, .int .i64 m.src, .int .i64 m.dst, .int .i64 m.tx, .slice Am0 m.nodes.length cm0, .slice Am1 m.changes.length cm1]] : Array Value).size) undef, []⟩ : Act) = a; intro hF
 have hH := Hp.own1 hok 100
 have hfew := hs.few
 have hH := hH.readable 910 hrm0 hin0 (fun j Y hY k hk hk2 => by rcases Sx.get_one hY with ⟨_, rfl⟩ | ⟨_, h⟩; exact hap0 k hk2 hk; simp [Sx.get] at h)
 have hH := hH.readable 911 hrm1 hin1 (fun j Y hY k hk hk2 => by rcases Sx.get_one hY with ⟨_, rfl⟩ | ⟨_, h⟩; exact hk; rcases Sx.get_one h with ⟨_, rfl⟩ | ⟨_, h⟩; exact hap1 k hk2 hk; simp [Sx.get] at h)
 have hlem0 := hrm0.le; unfold maxLen at hlem0
 have hlem1 := hrm1.le; unfold maxLen at hlem1
 have hH := hH.lib 990 hL (fun j Y hY k hk hk2 => by rcases Sx.get_one hY with ⟨_, rfl⟩ | ⟨_, h⟩; exact hk; rcases Sx.get_one h with ⟨_, rfl⟩ | ⟨_, h⟩; exact hk; rcases Sx.get_one h with ⟨_, rfl⟩ | ⟨_, h⟩; exact hLX k hk2 hk; simp [Sx.get] at h)
 obtain ⟨Aw, cw, hV⟩ := hX.row
 refine wp_seq_k fun khK1 hK1 => ?_
 refine wp_region_lit ?_
 refine wpList_plain rfl fun K hK => ?_
 refine w_box 3 hF hH rfl (hF.tmp 1 rfl) ?_
 clear hF hH; intro a w b3 hF hH
 refine hK _ _ ?_; clear hK K
 refine l_at hF rfl rfl rfl (x_assign rfl) ?_; clear hF; intro a hF
 refine wpList_nil ?_
 refine hK1 _ _ ?_
 refine wp_seq_k fun khK2 hK2 => ?_
 refine wp_seq_k fun khK3 hK3 => ?_
 refine wp_region_lit ?_
 refine l_at hF rfl rfl rfl (x_move (hF.tmp 0 rfl)) ?_; clear hF; intro a hF
 refine l_at hF rfl rfl rfl (x_ptrnil Tryd.underlying23 (hF.tmp 7 rfl) rfl) ?_; clear hF; intro a hF
 refine wpList_nil ?_
 refine hK3 _ _ ?_
 refine wp_cond_false (hF.tmp 8 rfl) ?_
 refine wp_skip ?_
 refine hK2 _ _ ?_
 refine wp_seq_k fun khK4 hK4 => ?_
 refine wp_region_lit ?_
 refine l_at hF rfl rfl rfl (x_loadn ty30 (hF.tmp 3 rfl) rfl (blk_whole (hH.at 3 rfl))) ?_; clear hF; intro a hF
 have hsz_ := hH.mods.size
 refine wpList_plain rfl fun K hK => ?_
 refine w_call hF (x_enter Tryd.func21 (by kernel_rfl) rfl (by simp only [List.map_toArray, List.map_cons, List.map_nil, hF.tmp 10 rfl] <;> rfl)) (encM_calls (m := m) _ (hH.holds 990 _ rfl) ((hH.rd 910 rfl)) ((hH.rd 911 rfl)) hb) rfl rfl ?_
 rintro _ w ⟨vr78, rfl, hm_, hr_⟩; refine ⟨_, rfl, ?_⟩; clear hF; intro a hF; have hH := Hp.rowOut hH 78 hm_ hr_; obtain ⟨Ar78, cr78, rfl⟩ := (hH.row 78 rfl).form; have hnw78 : ∀ k, (Value.slice Ar78 (encM m).length cr78).ownBlock = some k → w0.heap.size ≤ k := fun k h => Nat.le_trans hsz_ (hr_.2 k h)
 refine hK _ _ ?_; clear hK K
 refine l_at hF rfl rfl rfl (x_move (hF.tmp 11 rfl)) ?_; clear hF; intro a hF
 refine l_at hF rfl rfl rfl (x_extract (hF.tmp 9 rfl) rfl) ?_; clear hF; intro a hF
 refine l_at hF rfl rfl rfl (x_extract (hF.tmp 9 rfl) rfl) ?_; clear hF; intro a hF
 refine l_at hF rfl rfl rfl (x_assign (hF.tmp 12 rfl)) ?_; clear hF; intro a hF
 refine l_at hF rfl rfl rfl (x_assign (hF.tmp 13 rfl)) ?_; clear hF; intro a hF
 refine wpList_nil ?_
 refine hK4 _ _ ?_
 refine wp_seq_k fun khK5 hK5 => ?_
 refine wp_seq_k fun khK6 hK6 => ?_
 refine wp_region_lit ?_
 refine l_at hF rfl rfl rfl (x_move (hF.tmp 6 rfl)) ?_; clear hF; intro a hF
 refine l_at hF rfl rfl rfl (x_neq (hF.tmp 14 rfl) rfl) ?_; clear hF; intro a hF
 refine wpList_nil ?_
 refine hK6 _ _ ?_
 refine wp_cond_split (hF.tmp 15 rfl) (fun hc15 => ?_) (fun hc15 => ?_)
 ·have hk15_1 := hc15; try simp only [Bool.or_eq_true, Bool.and_eq_true, Bool.or_eq_false_iff, Bool.and_eq_false_iff, Bool.not_eq_true', Bool.not_eq_false', decide_eq_true_eq, decide_eq_false_iff_not, Bool.not_true, Bool.not_false] at hc15
  have hr0 := encME_ne (m := m) hc15
  refine wp_seq_k fun khK7 hK7 => ?_
  refine wp_region_lit ?_
  refine l_at hF rfl rfl rfl (x_move (hF.tmp 6 rfl)) ?_; clear hF; intro a hF
  refine l_at hF rfl rfl rfl (x_assign (hF.tmp 16 rfl)) ?_; clear hF; intro a hF
  refine wpList_nil ?_
  refine hK7 _ _ ?_
  refine wp_ret ?_
  try simp only [Exit.then, Exit.inBlock]
  exact fin_ret hF (res1 hF rfl rfl) ⟨X, by rw [(send_no hr0).1, ← encME_no hr0] <;> rfl, by rw [(send_no hr0).2]; exact hX, grew_lab hH 100 rfl (fun k hk => .inr (.inl hk))⟩
 ·have hk15_2 := hc15; try simp only [Bool.or_eq_true, Bool.and_eq_true, Bool.or_eq_false_iff, Bool.and_eq_false_iff, Bool.not_eq_true', Bool.not_eq_false', decide_eq_true_eq, decide_eq_false_iff_not, Bool.not_true, Bool.not_false] at hc15
  have hr := encME0 (m := m) hc15
  have hH := hH.freeze 78 rfl (fun kb => (Value.slice Ar78 (encM m).length cr78).ownBlock = some kb) (fun kb => ⟨fun h => .inr h, fun h => h.resolve_left id⟩)
  refine wp_skip ?_
  refine hK5 _ _ ?_
  refine wp_seq_k fun khK8 hK8 => ?_
  refine r_start [(3, .blk b3 (.cells #[.int .i64 m.kind, .int .i64 m.src, .int .i64 m.dst, .int .i64 m.tx, .slice Am0 m.nodes.length cm0, .slice Am1 m.changes.length cm1] 30 (0, 0)))] (by kernel_rfl) hH fun hH => ?_
  have hS : SL [(3, .blk b3 (.cells #[.int .i64 m.kind, .int .i64 m.src, .int .i64 m.dst, .int .i64 m.tx, .slice Am0 m.nodes.length cm0, .slice Am1 m.changes.length cm1] 30 (0, 0)))] _ := SL.of hH (sub_cons (sub_nil _) 3 rfl)
  refine r_take 0 hF rfl rfl rfl (by kernel_rfl) (by kernel_rfl) (by kernel_rfl) (fun _ _ _ h => h) rfl hS (fun w hS => x_move (hF.tmp 0 rfl)) rfl ?_; clear hF; intro a hF
  refine r_take 1 hF rfl rfl rfl (by kernel_rfl) (by kernel_rfl) (by kernel_rfl) (fun _ _ _ h => h) rfl hS (fun w hS => x_move (hF.tmp 5 rfl)) rfl ?_; clear hF; intro a hF
  refine r_take 2 hF rfl rfl rfl (by kernel_rfl) (by kernel_rfl) (by kernel_rfl) (fun _ _ _ h => h) rfl hS (fun w hS => x_move (hF.tmp 0 rfl)) rfl ?_; clear hF; intro a hF
  refine r_take 3 hF rfl rfl rfl (by kernel_rfl) (by kernel_rfl) (by kernel_rfl) (fun _ _ _ h => h) rfl hS (fun w hS => x_faddr Tryd.underlying30 rfl ty3 (by decide) (hF.tmp 3 rfl) rfl) rfl ?_; clear hF; intro a hF
  refine r_take 4 hF rfl rfl rfl (by kernel_rfl) (by kernel_rfl) (by kernel_rfl) (fun _ _ _ h => h) rfl hS (fun w hS => x_load1 ty3 (hF.tmp 20 rfl) (blk_cell (SL.at_ hS 3 rfl) 2 rfl)) rfl ?_; clear hF; intro a hF
  refine r_take 5 hF rfl rfl rfl (by kernel_rfl) (by kernel_rfl) (by kernel_rfl) (fun _ _ _ h => h) rfl hS (fun w hS => x_nil (hF.tmp 19 rfl)) rfl ?_; clear hF; intro a hF
  refine r_take 6 hF rfl rfl rfl (by kernel_rfl) (by kernel_rfl) (by kernel_rfl) (fun _ _ _ h => h) rfl hS (fun w hS => x_faddr Tryd.underlying51 rfl ty49 (by decide) (hF.tmp 22 rfl) rfl) rfl ?_; clear hF; intro a hF
  refine r_take 7 hF rfl rfl rfl (by kernel_rfl) (by kernel_rfl) (by kernel_rfl) (fun _ _ _ h => h) rfl hS (fun w hS => x_iaddr_arr Tryd.underlying49 ty3 (hF.tmp 23 rfl) (hF.tmp 21 rfl) (by have := (rightM_parts hr).dst; omega) (by have := (rightM_parts hr).dst; show _ < (8 : Int); omega)) rfl ?_; clear hF; intro a hF
  refine r_do 8 rfl (by kernel_rfl) rfl rfl ?_
  refine w_at hF (x_load1 ty3 (hF.tmp 24 rfl) ((hV _ (hH.holds 100 _ rfl)).2.2.1 m.dst (by have := (rightM_parts hr).dst; omega) (by have := (rightM_parts hr).dst; omega))) rfl rfl ?_
  clear hF; intro a hF
  clear hS; have hS : SL _ _ := SL.of hH (sub_cons (sub_nil _) 3 rfl); refine ⟨hS, ?_⟩
  refine r_take 9 hF rfl rfl rfl (by kernel_rfl) (by kernel_rfl) (by kernel_rfl) (fun _ _ _ h => h) rfl hS (fun w hS => x_buildS (cells := #[.slice Ar78 (encM m).length cr78, .int .i64 (gi s.eps m.dst)]) (places := #[(0, 1), (1, 1)]) Tryd.underlying58 ty58 (by kernel_rfl) (by simp only [List.map_toArray, List.map_cons, List.map_nil, hF.tmp 18 rfl, hF.tmp 25 rfl] <;> rfl) rfl) rfl ?_; clear hF; intro a hF
  have hsz2_ := hH.mods.size
  refine r_do 10 rfl (by kernel_rfl) rfl rfl ?_
  refine w_call hF (x_enter Tryd.func22 (by kernel_rfl) rfl (by simp only [List.map_toArray, List.map_cons, List.map_nil, hF.tmp 17 rfl, hF.tmp 26 rfl] <;> rfl)) (put_calls (p := (m, gi s.eps m.dst)) _ hX (hH.okX 100 rfl) hs ((hH.rd 78 rfl)) (fun k h => hH.inb 78 _ rfl k (.inr h)) (fun k h hx => hH.sep 100 78 _ _ (by decide) rfl rfl k hx (.inr h))) rfl rfl ?_
  rintro _ w ⟨X2, rfl, hX2, hg_⟩; refine ⟨_, rfl, ?_⟩; clear hF; intro a hF; have hH := hH.grew 100 rfl hg_ (fun k hk => ⟨78, _, rfl, hk⟩)
  clear hS; have hS : SL _ _ := SL.of hH (sub_cons (sub_nil _) 3 rfl); refine ⟨hS, ?_⟩
  refine r_take 11 hF rfl rfl rfl (by kernel_rfl) (by kernel_rfl) (by kernel_rfl) (fun _ _ _ h => h) rfl hS (fun w hS => x_assign (hF.tmp 27 rfl)) rfl ?_; clear hF; intro a hF
  refine r_end (by kernel_rfl) ?_; clear hS
  refine hK8 _ _ ?_
  refine wp_ret ?_
  try simp only [Exit.then, Exit.inBlock]
  exact fin_ret hF (res1 hF rfl rfl) ⟨X2, by rw [(send_yes hr).1] <;> rfl, by rw [(send_yes hr).2]; exact hX2, grew_lab hH 100 rfl (fun k hk => by rcases hg_.rd k hk with h | h | h | h; exact .inl h; exact .inr (.inl h); exact .inr (.inr (.inr (hnw78 k h))); exact .inr (.inr (.inr (Nat.le_trans hsz2_ h))))⟩
theorem del_callsI (w0 : World) {ok : Nat → Prop} {A : Option Addr} {xs : List WayD} {c : Nat} (hr : Row WayE 58 w0 ok (.slice A xs.length c) xs) (hinb : ∀ k, ok k → k < w0.heap.size) (hslf : ∀ k, (Value.slice A xs.length c).ownBlock = some k → ¬ ok k) {i : Int} (h0 : 0 ≤ i) (hi : i < (xs.length : Int)) : Calls Tryd.prog 23 #[.slice A xs.length c, .int .i64 i, .int .i64 (i + 1)] w0 fun e w' => e = .returned (.slice A (xs.take i.toNat ++ xs.drop (i.toNat + 1)).length c) ∧ Mods (fun k => (Value.slice A xs.length c).ownBlock = some k) w0 w' ∧ Row WayE 58 w' ok (.slice A (xs.take i.toNat ++ xs.drop (i.toNat + 1)).length c) (xs.take i.toNat ++ xs.drop (i.toNat + 1)) := by
 obtain ⟨n, rfl⟩ : ∃ n : Nat, i = (n : Int) := ⟨i.toNat, by omega⟩
 exact del_calls w0 hr hinb hslf (by omega)
set_option maxRecDepth 100000 in
set_option maxHeartbeats 1000000 in
theorem take_calls (w0 : World) (hL : LibAt true w0) {X : Asn} {bb : Nat} {s : BagS} (hX : BagA 51 58 bb s X) (hok : X.ok w0) (hs : BagOk s) (hLX : ∀ k, (Asn.lib true).rd k → ¬ X.own k) (i : Int) : Calls Tryd.prog 12 #[.pointer (some ⟨bb, 0, none⟩), .int .i64 i] w0 fun e w' => ∃ (X' : Asn) (An : Option Addr) (cn : Nat) (Ac : Option Addr) (cc : Nat) (okm : Nat → Prop), e = .returned (.tuple #[.agg #[.int .i64 (lookM s i).kind, .int .i64 (lookM s i).src, .int .i64 (lookM s i).dst, .int .i64 (lookM s i).tx, .slice An (lookM s i).nodes.length cn, .slice Ac (lookM s i).changes.length cc], .bool (freshS s i), .int .i64 (lookE s i)]) ∧ BagA 51 58 bb (takeS s i) X' ∧ Grew (fun _ => False) (fun _ => False) X w0 w' X' ∧ (Rd (.int .i64) w' okm An (lookM s i).nodes cn ∧ Rd ChgE w' okm Ac (lookM s i).changes cc) ∧ (∀ k, okm k → w0.heap.size ≤ k ∧ k < w'.heap.size) ∧ ∀ k, X'.own k → ¬ okm k := by
 obtain ⟨Aw, cw, okw, rfl⟩ := hX
 refine calls_of_wp Tryd.func12 rfl ?_
 have hF := Fr.enter #[.pointer (some ⟨bb, 0, none⟩), .int .i64 i] 49 (slotsOf [.pointer (some ⟨bb, 0, none⟩), .int .i64 i] 0) (Nat.le_of_ble_eq_true rfl) (fun i v h => by have h2 := (get_slotsOf _ 0 i v h).2; simpa only [List.getElem?_toArray, Nat.sub_zero] using h2)
 rw [Tryd.ntmps12]
 revert hF; generalize (⟨(#[.pointer (some ⟨bb, 0, none⟩), .int .i64 i] : Array Value) ++ Array.replicate (49 - (#[.pointer (some ⟨bb, 0, none⟩), .int .i64 i] : Array Value).size) undef, []⟩ : Act) = a; intro hF
 have hH := Hp.ofAll hok.holds
 have hfew := hs.few
 have hwl := wy_len s.ways
 have hH := hH.lib 990 hL (fun i A_ hA k hk hk2 => hLX k hk2 (⟨i, A_, hA, hk⟩))
 refine wp_seq_k fun khK1 hK1 => ?_
 refine wp_region_lit ?_
 refine wpList_plain rfl fun K hK => ?_
 refine w_alloc 4 hF hH rfl ty30 ?_
 clear hF hH; intro a w b4 hF hH
 refine hK _ _ ?_; clear hK K
 refine l_at hF rfl rfl rfl (x_assign rfl) ?_; clear hF; intro a hF
 refine l_at hF rfl rfl rfl (x_assign rfl) ?_; clear hF; intro a hF
 refine wpList_nil ?_
 refine hK1 _ _ ?_
 refine wp_seq_k fun khK2 hK2 => ?_
 refine wp_region_lit ?_
 refine l_at hF rfl rfl rfl (x_move (hF.tmp 0 rfl)) ?_; clear hF; intro a hF
 refine l_at hF rfl rfl rfl (x_move (hF.tmp 1 rfl)) ?_; clear hF; intro a hF
 have hsz_ := hH.mods.size
 refine wpList_plain rfl fun K hK => ?_
 refine w_call hF (x_enter Tryd.func19 (by kernel_rfl) rfl (by simp only [List.map_toArray, List.map_cons, List.map_nil, hF.tmp 11 rfl, hF.tmp 12 rfl] <;> rfl)) (look_calls _ (hH.holds 990 _ rfl) ⟨_, _, _, rfl⟩ (hH.sub [(1, .blk bb (.cells #[.slice Aw (wy s.ways).length cw, .int .i64 (gi s.eps 0), .int .i64 (gi s.eps 1), .int .i64 (gi s.eps 2), .int .i64 (gi s.eps 3), .int .i64 (gi s.eps 4), .int .i64 (gi s.eps 5), .int .i64 (gi s.eps 6), .int .i64 (gi s.eps 7), .int .i64 s.lost] 51 (0, 0))), (2, .row WayE 58 (.slice Aw (wy s.ways).length cw) (wy s.ways) okw)] (sub_cons (sub_cons (sub_nil _) 2 rfl) 1 rfl)).okAll hs i) rfl rfl ?_
 rintro _ w ⟨An70, cn70, Ac70, cc70, okm70, rfl, hm_, ⟨h1_, h2_⟩, hf_⟩; refine ⟨_, rfl, ?_⟩; clear hF; intro a hF; have h3_ := (hH.same hm_).rdNew 70 (fun i A' hA k hk => hH.inb i A' hA k (.inl hk)) h1_ hf_; have hH := (h3_.1.rdNew 71 h3_.2 h2_ hf_).1; have hfz_ : ∀ k, okm70 k → w0.heap.size ≤ k := fun k h => Nat.le_trans hsz_ (hf_ k h).1
 refine hK _ _ ?_; clear hK K
 refine l_at hF rfl rfl rfl (x_move (hF.tmp 13 rfl)) ?_; clear hF; intro a hF
 refine l_at hF rfl rfl rfl (x_extract (hF.tmp 10 rfl) rfl) ?_; clear hF; intro a hF
 refine l_at hF rfl rfl rfl (x_extract (hF.tmp 10 rfl) rfl) ?_; clear hF; intro a hF
 refine wpList_plain rfl fun K hK => ?_
 refine w_alloc 7 hF hH rfl ty30 ?_
 clear hF hH; intro a w b7 hF hH
 refine hK _ _ ?_; clear hK K
 refine wpList_plain rfl fun K hK => ?_
 refine w_storeA 7 hH ty30 rfl (hF.tmp 7 rfl) (hF.tmp 14 rfl) rfl (by simp [Value.cells, Value.oneCell']) rfl ?_
 clear hH; intro w hH
 refine hK _ _ ?_; clear hK K
 refine l_at hF rfl rfl rfl (x_assign (hF.tmp 15 rfl)) ?_; clear hF; intro a hF
 refine wpList_nil ?_
 refine hK2 _ _ ?_
 refine wp_seq_k fun khK3 hK3 => ?_
 refine wp_seq_k fun khK4 hK4 => ?_
 refine wp_region_lit ?_
 refine l_at hF rfl rfl rfl (x_move (hF.tmp 8 rfl)) ?_; clear hF; intro a hF
 refine l_at hF rfl rfl rfl (x_neq (hF.tmp 16 rfl) rfl) ?_; clear hF; intro a hF
 refine wpList_nil ?_
 refine hK4 _ _ ?_
 refine wp_cond_split (hF.tmp 17 rfl) (fun hc17 => ?_) (fun hc17 => ?_)
 ·have hk17_1 := hc17; try simp only [Bool.or_eq_true, Bool.and_eq_true, Bool.or_eq_false_iff, Bool.and_eq_false_iff, Bool.not_eq_true', Bool.not_eq_false', decide_eq_true_eq, decide_eq_false_iff_not, Bool.not_true, Bool.not_false] at hc17
  refine wp_seq_k fun khK5 hK5 => ?_
  refine wp_region_lit ?_
  refine l_at hF rfl rfl rfl (x_loadn ty30 (hF.tmp 7 rfl) rfl (blk_whole (hH.at 7 rfl))) ?_; clear hF; intro a hF
  refine l_at hF rfl rfl rfl (x_move (hF.tmp 8 rfl)) ?_; clear hF; intro a hF
  refine wpList_plain rfl fun K hK => ?_
  refine w_storeA 4 hH ty30 rfl (hF.tmp 4 rfl) (hF.tmp 18 rfl) rfl (by simp [Value.cells, Value.oneCell']) rfl ?_
  clear hH; intro w hH
  refine hK _ _ ?_; clear hK K
  refine l_at hF rfl rfl rfl (x_assign rfl) ?_; clear hF; intro a hF
  refine l_at hF rfl rfl rfl (x_assign (hF.tmp 19 rfl)) ?_; clear hF; intro a hF
  refine wpList_nil ?_
  refine hK5 _ _ ?_
  refine wp_ret ?_
  try simp only [Exit.then, Exit.inBlock]
  have hno := look_no (look_nz hc17)
  have hM_ := hno.2.2.1
  have hF_ := hno.2.2.2.1
  exact fin_ret hF (resct3 hF rfl rfl rfl rfl (hH.at 4 rfl) ty30 rfl) ⟨Asn.all [(1, .blk bb (.cells #[.slice Aw (wy s.ways).length cw, .int .i64 (gi s.eps 0), .int .i64 (gi s.eps 1), .int .i64 (gi s.eps 2), .int .i64 (gi s.eps 3), .int .i64 (gi s.eps 4), .int .i64 (gi s.eps 5), .int .i64 (gi s.eps 6), .int .i64 (gi s.eps 7), .int .i64 s.lost] 51 (0, 0))), (2, .row WayE 58 (.slice Aw (wy s.ways).length cw) (wy s.ways) okw)], An70, cn70, Ac70, cc70, okm70, by rw [hF_] <;> rfl, by rw [hM_]; exact ⟨_, _, _, rfl⟩, grew_of (hH.sub [(1, .blk bb (.cells #[.slice Aw (wy s.ways).length cw, .int .i64 (gi s.eps 0), .int .i64 (gi s.eps 1), .int .i64 (gi s.eps 2), .int .i64 (gi s.eps 3), .int .i64 (gi s.eps 4), .int .i64 (gi s.eps 5), .int .i64 (gi s.eps 6), .int .i64 (gi s.eps 7), .int .i64 s.lost] 51 (0, 0))), (2, .row WayE 58 (.slice Aw (wy s.ways).length cw) (wy s.ways) okw)] (sub_cons (sub_cons (sub_nil _) 2 rfl) 1 rfl)) (rdin_cons (fun k h => h.elim) (rdin_cons (fun k h => .inr (.inl ⟨2, _, rfl, h⟩)) rdin_nil)), ⟨hH.rd 70 rfl, hH.rd 71 rfl⟩, (fun k h => ⟨hfz_ k h, hH.inb 70 _ rfl k (.inr h)⟩), (own_cons (fun k hk h => hH.sep 1 70 _ _ (by decide) rfl rfl k hk (.inr h)) (own_cons (fun k hk h => hH.sep 2 70 _ _ (by decide) rfl rfl k hk (.inr h)) own_nil))⟩
 ·have hk17_2 := hc17; try simp only [Bool.or_eq_true, Bool.and_eq_true, Bool.or_eq_false_iff, Bool.and_eq_false_iff, Bool.not_eq_true', Bool.not_eq_false', decide_eq_true_eq, decide_eq_false_iff_not, Bool.not_true, Bool.not_false] at hc17
  have hyes := look_zero hc17
  have hio := isW_parts hyes
  have hyr := look_yes hyes
  have hHw := hH.row 2 rfl
  have hrd2 := Row.rd (ok' := fun k => okw k ∨ (.slice Aw (wy s.ways).length cw : Value).ownBlock = some k) hHw (fun _ h _ => .inl h) (fun _ h => .inr h)
  have hH := hH.bundle (L := [(1, .blk bb (.cells #[.slice Aw (wy s.ways).length cw, .int .i64 (gi s.eps 0), .int .i64 (gi s.eps 1), .int .i64 (gi s.eps 2), .int .i64 (gi s.eps 3), .int .i64 (gi s.eps 4), .int .i64 (gi s.eps 5), .int .i64 (gi s.eps 6), .int .i64 (gi s.eps 7), .int .i64 s.lost] 51 (0, 0))), (2, .row WayE 58 (.slice Aw (wy s.ways).length cw) (wy s.ways) okw)]) (N := [(990, .lib true), (4, .blk b4 (.cells #[.int .i64 0, .int .i64 0, .int .i64 0, .int .i64 0, .slice none 0 0, .slice none 0 0] 30 (0, 0))), (70, .rd_ (.int .i64) An70 ((lookM s i).nodes) cn70 okm70), (71, .rd_ ChgE Ac70 ((lookM s i).changes) cc70 okm70), (7, .blk b7 (.cells #[.int .i64 (lookM s i).kind, .int .i64 (lookM s i).src, .int .i64 (lookM s i).dst, .int .i64 (lookM s i).tx, .slice An70 (lookM s i).nodes.length cn70, .slice Ac70 (lookM s i).changes.length cc70] 30 (0, 0)))]) 100 (sub_cons (sub_cons (sub_nil _) 2 rfl) 1 rfl) (sub_cons (sub_cons (sub_cons (sub_cons (sub_cons (sub_nil _) 7 rfl) 71 rfl) 70 rfl) 4 rfl) 990 rfl) (apart_cons rfl (apart_cons rfl (apart_nil _)))
  have hd0 : 0 ≤ (lookM s i).dst := by rw [hyr.1]; exact (rightM_parts (hs.all _ (idW_mem hyes).1).1).dst.1
  have hd1 : (lookM s i).dst < 8 := by rw [hyr.1]; exact (rightM_parts (hs.all _ (idW_mem hyes).1).1).dst.2
  refine wp_skip ?_
  refine hK3 _ _ ?_
  refine wp_seq_k fun khK6 hK6 => ?_
  refine r_start [(7, .blk b7 (.cells #[.int .i64 (lookM s i).kind, .int .i64 (lookM s i).src, .int .i64 (lookM s i).dst, .int .i64 (lookM s i).tx, .slice An70 (lookM s i).nodes.length cn70, .slice Ac70 (lookM s i).changes.length cc70] 30 (0, 0)))] (by kernel_rfl) hH fun hH => ?_
  have hS : SL [(7, .blk b7 (.cells #[.int .i64 (lookM s i).kind, .int .i64 (lookM s i).src, .int .i64 (lookM s i).dst, .int .i64 (lookM s i).tx, .slice An70 (lookM s i).nodes.length cn70, .slice Ac70 (lookM s i).changes.length cc70] 30 (0, 0)))] _ := SL.of hH (sub_cons (sub_nil _) 7 rfl)
  refine r_take 0 hF rfl rfl rfl (by kernel_rfl) (by kernel_rfl) (by kernel_rfl) (fun _ _ _ h => h) rfl hS (fun w hS => x_move (hF.tmp 0 rfl)) rfl ?_; clear hF; intro a hF
  refine r_take 1 hF rfl rfl rfl (by kernel_rfl) (by kernel_rfl) (by kernel_rfl) (fun _ _ _ h => h) rfl hS (fun w hS => x_nil (hF.tmp 20 rfl)) rfl ?_; clear hF; intro a hF
  refine r_take 2 hF rfl rfl rfl (by kernel_rfl) (by kernel_rfl) (by kernel_rfl) (fun _ _ _ h => h) rfl hS (fun w hS => x_faddr Tryd.underlying51 rfl ty48 (by decide) (hF.tmp 21 rfl) rfl) rfl ?_; clear hF; intro a hF
  refine r_take 4 hF rfl rfl rfl (by kernel_rfl) (by kernel_rfl) (by kernel_rfl) (fun _ _ _ h => h) rfl hS (fun w hS => x_move (hF.tmp 1 rfl)) rfl ?_; clear hF; intro a hF
  refine r_take 8 hF rfl rfl rfl (by kernel_rfl) (by kernel_rfl) (by kernel_rfl) (fun _ _ _ h => h) rfl hS (fun w hS => x_move (hF.tmp 0 rfl)) rfl ?_; clear hF; intro a hF
  refine r_take 9 hF rfl rfl rfl (by kernel_rfl) (by kernel_rfl) (by kernel_rfl) (fun _ _ _ h => h) rfl hS (fun w hS => x_faddr Tryd.underlying30 rfl ty3 (by decide) (hF.tmp 7 rfl) rfl) rfl ?_; clear hF; intro a hF
  refine r_take 10 hF rfl rfl rfl (by kernel_rfl) (by kernel_rfl) (by kernel_rfl) (fun _ _ _ h => h) rfl hS (fun w hS => x_load1 ty3 (hF.tmp 29 rfl) (blk_cell (SL.at_ hS 7 rfl) 2 rfl)) rfl ?_; clear hF; intro a hF
  refine r_take 11 hF rfl rfl rfl (by kernel_rfl) (by kernel_rfl) (by kernel_rfl) (fun _ _ _ h => h) rfl hS (fun w hS => x_nil (hF.tmp 28 rfl)) rfl ?_; clear hF; intro a hF
  refine r_take 12 hF rfl rfl rfl (by kernel_rfl) (by kernel_rfl) (by kernel_rfl) (fun _ _ _ h => h) rfl hS (fun w hS => x_faddr Tryd.underlying51 rfl ty49 (by decide) (hF.tmp 31 rfl) rfl) rfl ?_; clear hF; intro a hF
  refine r_take 13 hF rfl rfl rfl (by kernel_rfl) (by kernel_rfl) (by kernel_rfl) (fun _ _ _ h => h) rfl hS (fun w hS => x_iaddr_arr Tryd.underlying49 ty3 (hF.tmp 32 rfl) (hF.tmp 30 rfl) (by have := hd0; omega) (by have := hd1; show _ < (8 : Int); omega)) rfl ?_; clear hF; intro a hF
  refine r_do2 3 14 rfl rfl (by kernel_rfl) rfl rfl rfl rfl ?_ ?_
  ·
   refine w_at hF (x_load1 ty48 (hF.tmp 22 rfl) (blk_cell ((hH.holds 100 _ rfl).holds 1 _ rfl) 0 rfl)) rfl rfl ?_
   clear hF; intro a hF
   clear hS; have hS : SL _ _ := SL.of hH (sub_cons (sub_nil _) 7 rfl); refine ⟨hS, ?_⟩
   refine r_take 5 hF rfl rfl rfl (by kernel_rfl) (by kernel_rfl) (by kernel_rfl) (fun _ _ _ h => h) rfl hS (fun w hS => x_iaddr_A Tryd.underlying48 ty58 (hrd2) (hF.tmp 23 rfl) (hF.tmp 24 rfl) (by omega) (by rw [hwl]; omega) _) rfl ?_; clear hF; intro a hF
   refine r_take 6 hF rfl rfl rfl (by kernel_rfl) (by kernel_rfl) (by kernel_rfl) (fun _ _ _ h => h) rfl hS (fun w hS => x_faddrA (hrd2) (by rw [hwl]; omega) _ Tryd.underlying58 rfl ty3 (by decide) (hF.tmp 25 rfl) rfl) rfl ?_; clear hF; intro a hF
   refine r_do2 7 14 rfl rfl (by kernel_rfl) rfl rfl rfl rfl ?_ ?_
   ·
    refine w_at hF (x_load1 ty3 (hF.tmp 26 rfl) (way_cell2 ((hH.holds 100 _ rfl).holds 2 _ rfl) hyes)) rfl rfl ?_
    clear hF; intro a hF
    clear hS; have hS : SL _ _ := SL.of hH (sub_cons (sub_nil _) 7 rfl); refine ⟨hS, ?_⟩
    refine r_do 14 rfl (by kernel_rfl) rfl rfl ?_
    refine w_at hF (x_load1 ty3 (hF.tmp 33 rfl) (blk_cell ((hH.holds 100 _ rfl).holds 1 _ rfl) _ (eps_at hd0 hd1))) rfl rfl ?_
    clear hF; intro a hF
    clear hS; have hS : SL _ _ := SL.of hH (sub_cons (sub_nil _) 7 rfl); refine ⟨hS, ?_⟩
    refine r_take 15 hF rfl rfl rfl (by kernel_rfl) (by kernel_rfl) (by kernel_rfl) (fun _ _ _ h => h) rfl hS (fun w hS => x_eql (hF.tmp 27 rfl) (hF.tmp 34 rfl)) rfl ?_; clear hF; intro a hF
    rw [show decide ((idW s i).2 = gi s.eps (lookM s i).dst) = decide ((idW s i).2 = gi s.eps (idW s i).1.dst) by rw [hyr.1]] at hF
    refine r_take 16 hF rfl rfl rfl (by kernel_rfl) (by kernel_rfl) (by kernel_rfl) (fun _ _ _ h => h) rfl hS (fun w hS => x_assign (hF.tmp 35 rfl)) rfl ?_; clear hF; intro a hF
    refine r_end (by kernel_rfl) ?_; clear hS
    refine hK6 _ _ ?_
    refine wp_seq_k fun khK7 hK7 => ?_
    refine wp_region_lit ?_
    have hH := hH.unbundle (L := [(1, .blk bb (.cells #[.slice Aw (wy s.ways).length cw, .int .i64 (gi s.eps 0), .int .i64 (gi s.eps 1), .int .i64 (gi s.eps 2), .int .i64 (gi s.eps 3), .int .i64 (gi s.eps 4), .int .i64 (gi s.eps 5), .int .i64 (gi s.eps 6), .int .i64 (gi s.eps 7), .int .i64 s.lost] 51 (0, 0))), (2, .row WayE 58 (.slice Aw (wy s.ways).length cw) (wy s.ways) okw)]) (N := [(990, .lib true), (4, .blk b4 (.cells #[.int .i64 0, .int .i64 0, .int .i64 0, .int .i64 0, .slice none 0 0, .slice none 0 0] 30 (0, 0))), (70, .rd_ (.int .i64) An70 ((lookM s i).nodes) cn70 okm70), (71, .rd_ ChgE Ac70 ((lookM s i).changes) cc70 okm70), (7, .blk b7 (.cells #[.int .i64 (lookM s i).kind, .int .i64 (lookM s i).src, .int .i64 (lookM s i).dst, .int .i64 (lookM s i).tx, .slice An70 (lookM s i).nodes.length cn70, .slice Ac70 (lookM s i).changes.length cc70] 30 (0, 0)))]) 100 rfl (sub_cons (sub_cons (sub_cons (sub_cons (sub_cons (sub_nil _) 7 rfl) 71 rfl) 70 rfl) 4 rfl) 990 rfl) rfl
    refine l_at hF rfl rfl rfl (x_move (hF.tmp 0 rfl)) ?_; clear hF; intro a hF
    refine l_at hF rfl rfl rfl (x_move (hF.tmp 0 rfl)) ?_; clear hF; intro a hF
    refine l_at hF rfl rfl rfl (x_nil (hF.tmp 37 rfl)) ?_; clear hF; intro a hF
    refine l_at hF rfl rfl rfl (x_faddr Tryd.underlying51 rfl ty48 (by decide) (hF.tmp 38 rfl) rfl) ?_; clear hF; intro a hF
    refine l_at hF rfl rfl rfl (x_load1 ty48 (hF.tmp 39 rfl) (blk_cell (hH.at 1 rfl) 0 rfl)) ?_; clear hF; intro a hF
    refine l_at hF rfl rfl rfl (x_move (hF.tmp 1 rfl)) ?_; clear hF; intro a hF
    refine l_at hF rfl rfl rfl (x_move (hF.tmp 1 rfl)) ?_; clear hF; intro a hF
    have hfew2 := hs.few
    refine l_at hF rfl rfl rfl (x_add (hF.tmp 42 rfl) rfl (w64 (by omega) (by omega))) ?_; clear hF; intro a hF
    refine wpList_plain rfl fun K hK => ?_
    refine w_call hF (x_enter Tryd.func23 (by kernel_rfl) rfl (by simp only [List.map_toArray, List.map_cons, List.map_nil, hF.tmp 40 rfl, hF.tmp 41 rfl, hF.tmp 43 rfl] <;> rfl)) (del_callsI _ (hH.row 2 rfl) (fun k h => hH.inb 2 _ rfl k (.inr h)) (fun k h h2 => hH.self 2 _ rfl k h h2) hio.1 (by rw [hwl]; exact hio.2)) rfl rfl ?_
    rintro _ w ⟨rfl, hm_, hr_⟩; refine ⟨_, rfl, ?_⟩; clear hF; intro a hF; have hH := hH.rowSame 2 rfl hm_ hr_ (by cases Aw <;> rfl)
    refine hK _ _ ?_; clear hK K
    refine l_at hF rfl rfl rfl (x_nil (hF.tmp 36 rfl)) ?_; clear hF; intro a hF
    refine l_at hF rfl rfl rfl (x_faddr Tryd.underlying51 rfl ty48 (by decide) (hF.tmp 45 rfl) rfl) ?_; clear hF; intro a hF
    refine wpList_plain rfl fun K hK => ?_
    refine w_store 1 hH ty48 rfl (hF.tmp 46 rfl) (hF.tmp 44 rfl) rfl (one1 rfl rfl) (by first | decide | exact Nat.le_of_ble_eq_true rfl) ?_
    clear hH; intro w hH
    refine hK _ _ ?_; clear hK K
    refine wpList_nil ?_
    refine hK7 _ _ ?_
    refine wp_seq_k fun khK8 hK8 => ?_
    refine wp_region_lit ?_
    refine l_at hF rfl rfl rfl (x_loadn ty30 (hF.tmp 7 rfl) rfl (blk_whole (hH.at 7 rfl))) ?_; clear hF; intro a hF
    refine l_at hF rfl rfl rfl (x_move (hF.tmp 9 rfl)) ?_; clear hF; intro a hF
    refine wpList_plain rfl fun K hK => ?_
    refine w_storeA 4 hH ty30 rfl (hF.tmp 4 rfl) (hF.tmp 47 rfl) rfl (by simp [Value.cells, Value.oneCell']) rfl ?_
    clear hH; intro w hH
    refine hK _ _ ?_; clear hK K
    refine l_at hF rfl rfl rfl (x_assign (hF.tmp 48 rfl)) ?_; clear hF; intro a hF
    refine l_at hF rfl rfl rfl (x_assign rfl) ?_; clear hF; intro a hF
    refine wpList_nil ?_
    refine hK8 _ _ ?_
    refine wp_ret ?_
    try simp only [Exit.then, Exit.inBlock]
    rw [wy_del] at hH hF
    have hM_ := hyr.2.2.1
    exact fin_ret hF (resct3 hF rfl rfl rfl rfl (hH.at 4 rfl) ty30 rfl) ⟨Asn.all [(1, .blk bb (.cells #[.slice Aw (wy (s.ways.take i.toNat ++ s.ways.drop (i.toNat + 1))).length cw, .int .i64 (gi s.eps 0), .int .i64 (gi s.eps 1), .int .i64 (gi s.eps 2), .int .i64 (gi s.eps 3), .int .i64 (gi s.eps 4), .int .i64 (gi s.eps 5), .int .i64 (gi s.eps 6), .int .i64 (gi s.eps 7), .int .i64 s.lost] 51 (0, 0))), (2, .row WayE 58 (.slice Aw (wy (s.ways.take i.toNat ++ s.ways.drop (i.toNat + 1))).length cw) (wy (s.ways.take i.toNat ++ s.ways.drop (i.toNat + 1))) okw)], An70, cn70, Ac70, cc70, okm70, by rw [hyr.2.1, hyr.2.2.2.1] <;> rfl, by rw [hM_]; exact ⟨_, _, _, rfl⟩, grew_of (hH.sub [(1, .blk bb (.cells #[.slice Aw (wy (s.ways.take i.toNat ++ s.ways.drop (i.toNat + 1))).length cw, .int .i64 (gi s.eps 0), .int .i64 (gi s.eps 1), .int .i64 (gi s.eps 2), .int .i64 (gi s.eps 3), .int .i64 (gi s.eps 4), .int .i64 (gi s.eps 5), .int .i64 (gi s.eps 6), .int .i64 (gi s.eps 7), .int .i64 s.lost] 51 (0, 0))), (2, .row WayE 58 (.slice Aw (wy (s.ways.take i.toNat ++ s.ways.drop (i.toNat + 1))).length cw) (wy (s.ways.take i.toNat ++ s.ways.drop (i.toNat + 1))) okw)] (sub_cons (sub_cons (sub_nil _) 2 rfl) 1 rfl)) (rdin_cons (fun k h => h.elim) (rdin_cons (fun k h => .inr (.inl ⟨2, _, rfl, h⟩)) rdin_nil)), ⟨hH.rd 70 rfl, hH.rd 71 rfl⟩, (fun k h => ⟨hfz_ k h, hH.inb 70 _ rfl k (.inr h)⟩), (own_cons (fun k hk h => hH.sep 1 70 _ _ (by decide) rfl rfl k hk (.inr h)) (own_cons (fun k hk h => hH.sep 2 70 _ _ (by decide) rfl rfl k hk (.inr h)) own_nil))⟩
   ·
    refine w_at hF (x_load1 ty3 (hF.tmp 33 rfl) (blk_cell ((hH.holds 100 _ rfl).holds 1 _ rfl) _ (eps_at hd0 hd1))) rfl rfl ?_
    clear hF; intro a hF
    clear hS; have hS : SL _ _ := SL.of hH (sub_cons (sub_nil _) 7 rfl); refine ⟨hS, ?_⟩
    refine r_do 7 rfl (by kernel_rfl) rfl rfl ?_
    refine w_at hF (x_load1 ty3 (hF.tmp 26 rfl) (way_cell2 ((hH.holds 100 _ rfl).holds 2 _ rfl) hyes)) rfl rfl ?_
    clear hF; intro a hF
    clear hS; have hS : SL _ _ := SL.of hH (sub_cons (sub_nil _) 7 rfl); refine ⟨hS, ?_⟩
    refine r_take 15 hF rfl rfl rfl (by kernel_rfl) (by kernel_rfl) (by kernel_rfl) (fun _ _ _ h => h) rfl hS (fun w hS => x_eql (hF.tmp 27 rfl) (hF.tmp 34 rfl)) rfl ?_; clear hF; intro a hF
    rw [show decide ((idW s i).2 = gi s.eps (lookM s i).dst) = decide ((idW s i).2 = gi s.eps (idW s i).1.dst) by rw [hyr.1]] at hF
    refine r_take 16 hF rfl rfl rfl (by kernel_rfl) (by kernel_rfl) (by kernel_rfl) (fun _ _ _ h => h) rfl hS (fun w hS => x_assign (hF.tmp 35 rfl)) rfl ?_; clear hF; intro a hF
    refine r_end (by kernel_rfl) ?_; clear hS
    refine hK6 _ _ ?_
    refine wp_seq_k fun khK9 hK9 => ?_
    refine wp_region_lit ?_
    have hH := hH.unbundle (L := [(1, .blk bb (.cells #[.slice Aw (wy s.ways).length cw, .int .i64 (gi s.eps 0), .int .i64 (gi s.eps 1), .int .i64 (gi s.eps 2), .int .i64 (gi s.eps 3), .int .i64 (gi s.eps 4), .int .i64 (gi s.eps 5), .int .i64 (gi s.eps 6), .int .i64 (gi s.eps 7), .int .i64 s.lost] 51 (0, 0))), (2, .row WayE 58 (.slice Aw (wy s.ways).length cw) (wy s.ways) okw)]) (N := [(990, .lib true), (4, .blk b4 (.cells #[.int .i64 0, .int .i64 0, .int .i64 0, .int .i64 0, .slice none 0 0, .slice none 0 0] 30 (0, 0))), (70, .rd_ (.int .i64) An70 ((lookM s i).nodes) cn70 okm70), (71, .rd_ ChgE Ac70 ((lookM s i).changes) cc70 okm70), (7, .blk b7 (.cells #[.int .i64 (lookM s i).kind, .int .i64 (lookM s i).src, .int .i64 (lookM s i).dst, .int .i64 (lookM s i).tx, .slice An70 (lookM s i).nodes.length cn70, .slice Ac70 (lookM s i).changes.length cc70] 30 (0, 0)))]) 100 rfl (sub_cons (sub_cons (sub_cons (sub_cons (sub_cons (sub_nil _) 7 rfl) 71 rfl) 70 rfl) 4 rfl) 990 rfl) rfl
    refine l_at hF rfl rfl rfl (x_move (hF.tmp 0 rfl)) ?_; clear hF; intro a hF
    refine l_at hF rfl rfl rfl (x_move (hF.tmp 0 rfl)) ?_; clear hF; intro a hF
    refine l_at hF rfl rfl rfl (x_nil (hF.tmp 37 rfl)) ?_; clear hF; intro a hF
    refine l_at hF rfl rfl rfl (x_faddr Tryd.underlying51 rfl ty48 (by decide) (hF.tmp 38 rfl) rfl) ?_; clear hF; intro a hF
    refine l_at hF rfl rfl rfl (x_load1 ty48 (hF.tmp 39 rfl) (blk_cell (hH.at 1 rfl) 0 rfl)) ?_; clear hF; intro a hF
    refine l_at hF rfl rfl rfl (x_move (hF.tmp 1 rfl)) ?_; clear hF; intro a hF
    refine l_at hF rfl rfl rfl (x_move (hF.tmp 1 rfl)) ?_; clear hF; intro a hF
    have hfew2 := hs.few
    refine l_at hF rfl rfl rfl (x_add (hF.tmp 42 rfl) rfl (w64 (by omega) (by omega))) ?_; clear hF; intro a hF
    refine wpList_plain rfl fun K hK => ?_
    refine w_call hF (x_enter Tryd.func23 (by kernel_rfl) rfl (by simp only [List.map_toArray, List.map_cons, List.map_nil, hF.tmp 40 rfl, hF.tmp 41 rfl, hF.tmp 43 rfl] <;> rfl)) (del_callsI _ (hH.row 2 rfl) (fun k h => hH.inb 2 _ rfl k (.inr h)) (fun k h h2 => hH.self 2 _ rfl k h h2) hio.1 (by rw [hwl]; exact hio.2)) rfl rfl ?_
    rintro _ w ⟨rfl, hm_, hr_⟩; refine ⟨_, rfl, ?_⟩; clear hF; intro a hF; have hH := hH.rowSame 2 rfl hm_ hr_ (by cases Aw <;> rfl)
    refine hK _ _ ?_; clear hK K
    refine l_at hF rfl rfl rfl (x_nil (hF.tmp 36 rfl)) ?_; clear hF; intro a hF
    refine l_at hF rfl rfl rfl (x_faddr Tryd.underlying51 rfl ty48 (by decide) (hF.tmp 45 rfl) rfl) ?_; clear hF; intro a hF
    refine wpList_plain rfl fun K hK => ?_
    refine w_store 1 hH ty48 rfl (hF.tmp 46 rfl) (hF.tmp 44 rfl) rfl (one1 rfl rfl) (by first | decide | exact Nat.le_of_ble_eq_true rfl) ?_
    clear hH; intro w hH
    refine hK _ _ ?_; clear hK K
    refine wpList_nil ?_
    refine hK9 _ _ ?_
    refine wp_seq_k fun khK10 hK10 => ?_
    refine wp_region_lit ?_
    refine l_at hF rfl rfl rfl (x_loadn ty30 (hF.tmp 7 rfl) rfl (blk_whole (hH.at 7 rfl))) ?_; clear hF; intro a hF
    refine l_at hF rfl rfl rfl (x_move (hF.tmp 9 rfl)) ?_; clear hF; intro a hF
    refine wpList_plain rfl fun K hK => ?_
    refine w_storeA 4 hH ty30 rfl (hF.tmp 4 rfl) (hF.tmp 47 rfl) rfl (by simp [Value.cells, Value.oneCell']) rfl ?_
    clear hH; intro w hH
    refine hK _ _ ?_; clear hK K
    refine l_at hF rfl rfl rfl (x_assign (hF.tmp 48 rfl)) ?_; clear hF; intro a hF
    refine l_at hF rfl rfl rfl (x_assign rfl) ?_; clear hF; intro a hF
    refine wpList_nil ?_
    refine hK10 _ _ ?_
    refine wp_ret ?_
    try simp only [Exit.then, Exit.inBlock]
    rw [wy_del] at hH hF
    have hM_ := hyr.2.2.1
    exact fin_ret hF (resct3 hF rfl rfl rfl rfl (hH.at 4 rfl) ty30 rfl) ⟨Asn.all [(1, .blk bb (.cells #[.slice Aw (wy (s.ways.take i.toNat ++ s.ways.drop (i.toNat + 1))).length cw, .int .i64 (gi s.eps 0), .int .i64 (gi s.eps 1), .int .i64 (gi s.eps 2), .int .i64 (gi s.eps 3), .int .i64 (gi s.eps 4), .int .i64 (gi s.eps 5), .int .i64 (gi s.eps 6), .int .i64 (gi s.eps 7), .int .i64 s.lost] 51 (0, 0))), (2, .row WayE 58 (.slice Aw (wy (s.ways.take i.toNat ++ s.ways.drop (i.toNat + 1))).length cw) (wy (s.ways.take i.toNat ++ s.ways.drop (i.toNat + 1))) okw)], An70, cn70, Ac70, cc70, okm70, by rw [hyr.2.1, hyr.2.2.2.1] <;> rfl, by rw [hM_]; exact ⟨_, _, _, rfl⟩, grew_of (hH.sub [(1, .blk bb (.cells #[.slice Aw (wy (s.ways.take i.toNat ++ s.ways.drop (i.toNat + 1))).length cw, .int .i64 (gi s.eps 0), .int .i64 (gi s.eps 1), .int .i64 (gi s.eps 2), .int .i64 (gi s.eps 3), .int .i64 (gi s.eps 4), .int .i64 (gi s.eps 5), .int .i64 (gi s.eps 6), .int .i64 (gi s.eps 7), .int .i64 s.lost] 51 (0, 0))), (2, .row WayE 58 (.slice Aw (wy (s.ways.take i.toNat ++ s.ways.drop (i.toNat + 1))).length cw) (wy (s.ways.take i.toNat ++ s.ways.drop (i.toNat + 1))) okw)] (sub_cons (sub_cons (sub_nil _) 2 rfl) 1 rfl)) (rdin_cons (fun k h => h.elim) (rdin_cons (fun k h => .inr (.inl ⟨2, _, rfl, h⟩)) rdin_nil)), ⟨hH.rd 70 rfl, hH.rd 71 rfl⟩, (fun k h => ⟨hfz_ k h, hH.inb 70 _ rfl k (.inr h)⟩), (own_cons (fun k hk h => hH.sep 1 70 _ _ (by decide) rfl rfl k hk (.inr h)) (own_cons (fun k hk h => hH.sep 2 70 _ _ (by decide) rfl rfl k hk (.inr h)) own_nil))⟩
  ·
   refine w_at hF (x_load1 ty3 (hF.tmp 33 rfl) (blk_cell ((hH.holds 100 _ rfl).holds 1 _ rfl) _ (eps_at hd0 hd1))) rfl rfl ?_
   clear hF; intro a hF
   clear hS; have hS : SL _ _ := SL.of hH (sub_cons (sub_nil _) 7 rfl); refine ⟨hS, ?_⟩
   refine r_do 3 rfl (by kernel_rfl) rfl rfl ?_
   refine w_at hF (x_load1 ty48 (hF.tmp 22 rfl) (blk_cell ((hH.holds 100 _ rfl).holds 1 _ rfl) 0 rfl)) rfl rfl ?_
   clear hF; intro a hF
   clear hS; have hS : SL _ _ := SL.of hH (sub_cons (sub_nil _) 7 rfl); refine ⟨hS, ?_⟩
   refine r_take 5 hF rfl rfl rfl (by kernel_rfl) (by kernel_rfl) (by kernel_rfl) (fun _ _ _ h => h) rfl hS (fun w hS => x_iaddr_A Tryd.underlying48 ty58 (hrd2) (hF.tmp 23 rfl) (hF.tmp 24 rfl) (by omega) (by rw [hwl]; omega) _) rfl ?_; clear hF; intro a hF
   refine r_take 6 hF rfl rfl rfl (by kernel_rfl) (by kernel_rfl) (by kernel_rfl) (fun _ _ _ h => h) rfl hS (fun w hS => x_faddrA (hrd2) (by rw [hwl]; omega) _ Tryd.underlying58 rfl ty3 (by decide) (hF.tmp 25 rfl) rfl) rfl ?_; clear hF; intro a hF
   refine r_do 7 rfl (by kernel_rfl) rfl rfl ?_
   refine w_at hF (x_load1 ty3 (hF.tmp 26 rfl) (way_cell2 ((hH.holds 100 _ rfl).holds 2 _ rfl) hyes)) rfl rfl ?_
   clear hF; intro a hF
   clear hS; have hS : SL _ _ := SL.of hH (sub_cons (sub_nil _) 7 rfl); refine ⟨hS, ?_⟩
   refine r_take 15 hF rfl rfl rfl (by kernel_rfl) (by kernel_rfl) (by kernel_rfl) (fun _ _ _ h => h) rfl hS (fun w hS => x_eql (hF.tmp 27 rfl) (hF.tmp 34 rfl)) rfl ?_; clear hF; intro a hF
   rw [show decide ((idW s i).2 = gi s.eps (lookM s i).dst) = decide ((idW s i).2 = gi s.eps (idW s i).1.dst) by rw [hyr.1]] at hF
   refine r_take 16 hF rfl rfl rfl (by kernel_rfl) (by kernel_rfl) (by kernel_rfl) (fun _ _ _ h => h) rfl hS (fun w hS => x_assign (hF.tmp 35 rfl)) rfl ?_; clear hF; intro a hF
   refine r_end (by kernel_rfl) ?_; clear hS
   refine hK6 _ _ ?_
   refine wp_seq_k fun khK11 hK11 => ?_
   refine wp_region_lit ?_
   have hH := hH.unbundle (L := [(1, .blk bb (.cells #[.slice Aw (wy s.ways).length cw, .int .i64 (gi s.eps 0), .int .i64 (gi s.eps 1), .int .i64 (gi s.eps 2), .int .i64 (gi s.eps 3), .int .i64 (gi s.eps 4), .int .i64 (gi s.eps 5), .int .i64 (gi s.eps 6), .int .i64 (gi s.eps 7), .int .i64 s.lost] 51 (0, 0))), (2, .row WayE 58 (.slice Aw (wy s.ways).length cw) (wy s.ways) okw)]) (N := [(990, .lib true), (4, .blk b4 (.cells #[.int .i64 0, .int .i64 0, .int .i64 0, .int .i64 0, .slice none 0 0, .slice none 0 0] 30 (0, 0))), (70, .rd_ (.int .i64) An70 ((lookM s i).nodes) cn70 okm70), (71, .rd_ ChgE Ac70 ((lookM s i).changes) cc70 okm70), (7, .blk b7 (.cells #[.int .i64 (lookM s i).kind, .int .i64 (lookM s i).src, .int .i64 (lookM s i).dst, .int .i64 (lookM s i).tx, .slice An70 (lookM s i).nodes.length cn70, .slice Ac70 (lookM s i).changes.length cc70] 30 (0, 0)))]) 100 rfl (sub_cons (sub_cons (sub_cons (sub_cons (sub_cons (sub_nil _) 7 rfl) 71 rfl) 70 rfl) 4 rfl) 990 rfl) rfl
   refine l_at hF rfl rfl rfl (x_move (hF.tmp 0 rfl)) ?_; clear hF; intro a hF
   refine l_at hF rfl rfl rfl (x_move (hF.tmp 0 rfl)) ?_; clear hF; intro a hF
   refine l_at hF rfl rfl rfl (x_nil (hF.tmp 37 rfl)) ?_; clear hF; intro a hF
   refine l_at hF rfl rfl rfl (x_faddr Tryd.underlying51 rfl ty48 (by decide) (hF.tmp 38 rfl) rfl) ?_; clear hF; intro a hF
   refine l_at hF rfl rfl rfl (x_load1 ty48 (hF.tmp 39 rfl) (blk_cell (hH.at 1 rfl) 0 rfl)) ?_; clear hF; intro a hF
   refine l_at hF rfl rfl rfl (x_move (hF.tmp 1 rfl)) ?_; clear hF; intro a hF
   refine l_at hF rfl rfl rfl (x_move (hF.tmp 1 rfl)) ?_; clear hF; intro a hF
   have hfew2 := hs.few
   refine l_at hF rfl rfl rfl (x_add (hF.tmp 42 rfl) rfl (w64 (by omega) (by omega))) ?_; clear hF; intro a hF
   refine wpList_plain rfl fun K hK => ?_
   refine w_call hF (x_enter Tryd.func23 (by kernel_rfl) rfl (by simp only [List.map_toArray, List.map_cons, List.map_nil, hF.tmp 40 rfl, hF.tmp 41 rfl, hF.tmp 43 rfl] <;> rfl)) (del_callsI _ (hH.row 2 rfl) (fun k h => hH.inb 2 _ rfl k (.inr h)) (fun k h h2 => hH.self 2 _ rfl k h h2) hio.1 (by rw [hwl]; exact hio.2)) rfl rfl ?_
   rintro _ w ⟨rfl, hm_, hr_⟩; refine ⟨_, rfl, ?_⟩; clear hF; intro a hF; have hH := hH.rowSame 2 rfl hm_ hr_ (by cases Aw <;> rfl)
   refine hK _ _ ?_; clear hK K
   refine l_at hF rfl rfl rfl (x_nil (hF.tmp 36 rfl)) ?_; clear hF; intro a hF
   refine l_at hF rfl rfl rfl (x_faddr Tryd.underlying51 rfl ty48 (by decide) (hF.tmp 45 rfl) rfl) ?_; clear hF; intro a hF
   refine wpList_plain rfl fun K hK => ?_
   refine w_store 1 hH ty48 rfl (hF.tmp 46 rfl) (hF.tmp 44 rfl) rfl (one1 rfl rfl) (by first | decide | exact Nat.le_of_ble_eq_true rfl) ?_
   clear hH; intro w hH
   refine hK _ _ ?_; clear hK K
   refine wpList_nil ?_
   refine hK11 _ _ ?_
   refine wp_seq_k fun khK12 hK12 => ?_
   refine wp_region_lit ?_
   refine l_at hF rfl rfl rfl (x_loadn ty30 (hF.tmp 7 rfl) rfl (blk_whole (hH.at 7 rfl))) ?_; clear hF; intro a hF
   refine l_at hF rfl rfl rfl (x_move (hF.tmp 9 rfl)) ?_; clear hF; intro a hF
   refine wpList_plain rfl fun K hK => ?_
   refine w_storeA 4 hH ty30 rfl (hF.tmp 4 rfl) (hF.tmp 47 rfl) rfl (by simp [Value.cells, Value.oneCell']) rfl ?_
   clear hH; intro w hH
   refine hK _ _ ?_; clear hK K
   refine l_at hF rfl rfl rfl (x_assign (hF.tmp 48 rfl)) ?_; clear hF; intro a hF
   refine l_at hF rfl rfl rfl (x_assign rfl) ?_; clear hF; intro a hF
   refine wpList_nil ?_
   refine hK12 _ _ ?_
   refine wp_ret ?_
   try simp only [Exit.then, Exit.inBlock]
   rw [wy_del] at hH hF
   have hM_ := hyr.2.2.1
   exact fin_ret hF (resct3 hF rfl rfl rfl rfl (hH.at 4 rfl) ty30 rfl) ⟨Asn.all [(1, .blk bb (.cells #[.slice Aw (wy (s.ways.take i.toNat ++ s.ways.drop (i.toNat + 1))).length cw, .int .i64 (gi s.eps 0), .int .i64 (gi s.eps 1), .int .i64 (gi s.eps 2), .int .i64 (gi s.eps 3), .int .i64 (gi s.eps 4), .int .i64 (gi s.eps 5), .int .i64 (gi s.eps 6), .int .i64 (gi s.eps 7), .int .i64 s.lost] 51 (0, 0))), (2, .row WayE 58 (.slice Aw (wy (s.ways.take i.toNat ++ s.ways.drop (i.toNat + 1))).length cw) (wy (s.ways.take i.toNat ++ s.ways.drop (i.toNat + 1))) okw)], An70, cn70, Ac70, cc70, okm70, by rw [hyr.2.1, hyr.2.2.2.1] <;> rfl, by rw [hM_]; exact ⟨_, _, _, rfl⟩, grew_of (hH.sub [(1, .blk bb (.cells #[.slice Aw (wy (s.ways.take i.toNat ++ s.ways.drop (i.toNat + 1))).length cw, .int .i64 (gi s.eps 0), .int .i64 (gi s.eps 1), .int .i64 (gi s.eps 2), .int .i64 (gi s.eps 3), .int .i64 (gi s.eps 4), .int .i64 (gi s.eps 5), .int .i64 (gi s.eps 6), .int .i64 (gi s.eps 7), .int .i64 s.lost] 51 (0, 0))), (2, .row WayE 58 (.slice Aw (wy (s.ways.take i.toNat ++ s.ways.drop (i.toNat + 1))).length cw) (wy (s.ways.take i.toNat ++ s.ways.drop (i.toNat + 1))) okw)] (sub_cons (sub_cons (sub_nil _) 2 rfl) 1 rfl)) (rdin_cons (fun k h => h.elim) (rdin_cons (fun k h => .inr (.inl ⟨2, _, rfl, h⟩)) rdin_nil)), ⟨hH.rd 70 rfl, hH.rd 71 rfl⟩, (fun k h => ⟨hfz_ k h, hH.inb 70 _ rfl k (.inr h)⟩), (own_cons (fun k hk h => hH.sep 1 70 _ _ (by decide) rfl rfl k hk (.inr h)) (own_cons (fun k hk h => hH.sep 2 70 _ _ (by decide) rfl rfl k hk (.inr h)) own_nil))⟩
set_option maxRecDepth 100000 in
set_option maxHeartbeats 1000000 in
theorem twice_calls (w0 : World) (hL : LibAt true w0) {X : Asn} {bb : Nat} {s : BagS} (hX : BagA 51 58 bb s X) (hok : X.ok w0) (hs : BagOk s) (hLX : ∀ k, (Asn.lib true).rd k → ¬ X.own k) (i : Int) : Calls Tryd.prog 16 #[.pointer (some ⟨bb, 0, none⟩), .int .i64 i] w0 fun e w' => ∃ X', e = .returned (.int .i64 (twiceE s i)) ∧ BagA 51 58 bb (twiceS s i) X' ∧ Grew (fun _ => False) (fun _ => False) X w0 w' X' := by
 refine calls_of_wp Tryd.func16 rfl ?_
 have hF := Fr.enter #[.pointer (some ⟨bb, 0, none⟩), .int .i64 i] 25 (slotsOf [.pointer (some ⟨bb, 0, none⟩), .int .i64 i] 0) (Nat.le_of_ble_eq_true rfl) (fun i v h => by have h2 := (get_slotsOf _ 0 i v h).2; simpa only [List.getElem?_toArray, Nat.sub_zero] using h2)
 rw [Tryd.ntmps16]
 revert hF; generalize (⟨(#[.pointer (some ⟨bb, 0, none⟩), .int .i64 i] : Array Value) ++ Array.replicate (25 - (#[.pointer (some ⟨bb, 0, none⟩), .int .i64 i] : Array Value).size) undef, []⟩ : Act) = a; intro hF
 have hH := Hp.own1 hok 100
 have hfew := hs.few
 have hH := hH.lib 990 hL (fun j Y hY k hk hk2 => by rcases Sx.get_one hY with ⟨_, rfl⟩ | ⟨_, h⟩; exact hLX k hk2 hk; simp [Sx.get] at h)
 obtain ⟨Aw, cw, hV⟩ := hX.row
 have hwl := wy_len s.ways
 refine wp_seq_k fun khK1 hK1 => ?_
 refine wp_region_lit ?_
 refine l_at hF rfl rfl rfl (x_assign rfl) ?_; clear hF; intro a hF
 refine wpList_nil ?_
 refine hK1 _ _ ?_
 refine wp_seq_k fun khK2 hK2 => ?_
 refine wp_seq_k fun khK3 hK3 => ?_
 refine wp_region_lit ?_
 refine l_at hF rfl rfl rfl (x_move (hF.tmp 0 rfl)) ?_; clear hF; intro a hF
 refine l_at hF rfl rfl rfl (x_move (hF.tmp 1 rfl)) ?_; clear hF; intro a hF
 refine wpList_plain rfl fun K hK => ?_
 refine w_call hF (x_enter Tryd.func19 (by kernel_rfl) rfl (by simp only [List.map_toArray, List.map_cons, List.map_nil, hF.tmp 8 rfl, hF.tmp 9 rfl] <;> rfl)) (look_calls _ (hH.holds 990 _ rfl) hX (hH.okX 100 rfl) hs i) rfl rfl ?_
 rintro _ w ⟨An70, cn70, Ac70, cc70, okm70, rfl, hm_, ⟨h1_, h2_⟩, hf_⟩; refine ⟨_, rfl, ?_⟩; clear hF; intro a hF; have h3_ := (hH.same hm_).rdNew 70 (fun i A' hA k hk => hH.inb i A' hA k (.inl hk)) h1_ hf_; have hH := (h3_.1.rdNew 71 h3_.2 h2_ hf_).1
 refine hK _ _ ?_; clear hK K
 refine l_at hF rfl rfl rfl (x_move (hF.tmp 10 rfl)) ?_; clear hF; intro a hF
 refine l_at hF rfl rfl rfl (x_extract (hF.tmp 7 rfl) rfl) ?_; clear hF; intro a hF
 refine l_at hF rfl rfl rfl (x_extract (hF.tmp 7 rfl) rfl) ?_; clear hF; intro a hF
 refine wpList_plain rfl fun K hK => ?_
 refine w_alloc 5 hF hH rfl ty30 ?_
 clear hF hH; intro a w b5 hF hH
 refine hK _ _ ?_; clear hK K
 refine wpList_plain rfl fun K hK => ?_
 refine w_storeA 5 hH ty30 rfl (hF.tmp 5 rfl) (hF.tmp 11 rfl) rfl (by simp [Value.cells, Value.oneCell']) rfl ?_
 clear hH; intro w hH
 refine hK _ _ ?_; clear hK K
 refine l_at hF rfl rfl rfl (x_assign (hF.tmp 12 rfl)) ?_; clear hF; intro a hF
 refine wpList_nil ?_
 refine hK3 _ _ ?_
 refine wp_seq_k fun khK4 hK4 => ?_
 refine wp_region_lit ?_
 refine l_at hF rfl rfl rfl (x_move (hF.tmp 6 rfl)) ?_; clear hF; intro a hF
 refine l_at hF rfl rfl rfl (x_neq (hF.tmp 13 rfl) rfl) ?_; clear hF; intro a hF
 refine wpList_nil ?_
 refine hK4 _ _ ?_
 refine wp_cond_split (hF.tmp 14 rfl) (fun hc14 => ?_) (fun hc14 => ?_)
 ·have hk14_1 := hc14; try simp only [Bool.or_eq_true, Bool.and_eq_true, Bool.or_eq_false_iff, Bool.and_eq_false_iff, Bool.not_eq_true', Bool.not_eq_false', decide_eq_true_eq, decide_eq_false_iff_not, Bool.not_true, Bool.not_false] at hc14
  refine wp_seq_k fun khK5 hK5 => ?_
  refine wp_region_lit ?_
  refine l_at hF rfl rfl rfl (x_move (hF.tmp 6 rfl)) ?_; clear hF; intro a hF
  refine l_at hF rfl rfl rfl (x_assign (hF.tmp 15 rfl)) ?_; clear hF; intro a hF
  refine wpList_nil ?_
  refine hK5 _ _ ?_
  refine wp_ret ?_
  try simp only [Exit.then, Exit.inBlock]
  have hno := look_no (look_nz hc14)
  exact fin_ret hF (res1 hF rfl rfl) ⟨X, by rw [hno.2.2.2.2.2.1, ← hno.2.1] <;> rfl, by rw [hno.2.2.2.2.1]; exact hX, grew_lab hH 100 rfl (fun k hk => .inr (.inl hk))⟩
 ·have hk14_2 := hc14; try simp only [Bool.or_eq_true, Bool.and_eq_true, Bool.or_eq_false_iff, Bool.and_eq_false_iff, Bool.not_eq_true', Bool.not_eq_false', decide_eq_true_eq, decide_eq_false_iff_not, Bool.not_true, Bool.not_false] at hc14
  have hyes := look_zero hc14
  have hio := isW_parts hyes
  have hyr := look_yes hyes
  obtain ⟨fA, fc, okb, hrb_, hsub_, hcs_, _⟩ := (hV _ (hH.holds 100 _ rfl)).2.2.2 i hyes
  refine wp_skip ?_
  refine hK2 _ _ ?_
  refine wp_seq_k fun khK6 hK6 => ?_
  refine wp_region_lit ?_
  refine l_at hF rfl rfl rfl (x_move (hF.tmp 0 rfl)) ?_; clear hF; intro a hF
  refine l_at hF rfl rfl rfl (x_move (hF.tmp 0 rfl)) ?_; clear hF; intro a hF
  refine l_at hF rfl rfl rfl (x_nil (hF.tmp 17 rfl)) ?_; clear hF; intro a hF
  refine l_at hF rfl rfl rfl (x_faddr Tryd.underlying51 rfl ty48 (by decide) (hF.tmp 18 rfl) rfl) ?_; clear hF; intro a hF
  refine l_at hF rfl rfl rfl (x_load1 ty48 (hF.tmp 19 rfl) (hV _ (hH.holds 100 _ rfl)).1) ?_; clear hF; intro a hF
  refine l_at hF rfl rfl rfl (x_move (hF.tmp 1 rfl)) ?_; clear hF; intro a hF
  refine l_at hF rfl rfl rfl (x_iaddr_A Tryd.underlying48 ty58 ((hV _ (hH.holds 100 _ rfl)).2.1) (hF.tmp 20 rfl) (hF.tmp 21 rfl) (by omega) (by rw [hwl]; omega) _) ?_; clear hF; intro a hF
  refine l_at hF rfl rfl rfl (x_loadn ty58 (hF.tmp 22 rfl) rfl hcs_) ?_; clear hF; intro a hF
  have hsz2_ := hH.mods.size
  refine wpList_plain rfl fun K hK => ?_
  refine w_call hF (x_enter Tryd.func22 (by kernel_rfl) rfl (by simp only [List.map_toArray, List.map_cons, List.map_nil, hF.tmp 16 rfl, hF.tmp 23 rfl] <;> rfl)) (put_calls (p := (idW s i)) _ hX (hH.okX 100 rfl) hs hrb_ (fun k h => hH.inb 100 _ rfl k (.inr (hsub_ k h))) (fun k h hx => hH.self 100 _ rfl k hx (hsub_ k h))) rfl rfl ?_
  rintro _ w ⟨X2, rfl, hX2, hg_⟩; refine ⟨_, rfl, ?_⟩; clear hF; intro a hF; have hH := hH.grew 100 rfl hg_ (fun k hk => ⟨100, _, rfl, hsub_ k hk⟩)
  refine hK _ _ ?_; clear hK K
  refine l_at hF rfl rfl rfl (x_assign (hF.tmp 24 rfl)) ?_; clear hF; intro a hF
  refine wpList_nil ?_
  refine hK6 _ _ ?_
  refine wp_ret ?_
  try simp only [Exit.then, Exit.inBlock]
  exact fin_ret hF (res1 hF rfl rfl) ⟨X2, by rw [hyr.2.2.2.2.2.1] <;> rfl, by rw [hyr.2.2.2.2.1]; exact hX2, grew_lab hH 100 rfl (fun k hk => by rcases hg_.rd k hk with h | h | h | h; exact .inl h; exact .inr (.inl h); exact .inr (.inl (hsub_ k h)); exact .inr (.inr (.inr (Nat.le_trans hsz2_ h))))⟩
set_option maxRecDepth 100000 in
set_option maxHeartbeats 1000000 in
theorem lose_calls (w0 : World) (hL : LibAt true w0) {X : Asn} {bb : Nat} {s : BagS} (hX : BagA 51 58 bb s X) (hok : X.ok w0) (hs : BagOk s) (hLX : ∀ k, (Asn.lib true).rd k → ¬ X.own k) (i : Int) : Calls Tryd.prog 18 #[.pointer (some ⟨bb, 0, none⟩), .int .i64 i] w0 fun e w' => ∃ X', e = .returned (.int .i64 (lookE s i)) ∧ BagA 51 58 bb (loseS s i) X' ∧ Grew (fun _ => False) (fun _ => False) X w0 w' X' := by
 refine calls_of_wp Tryd.func18 rfl ?_
 have hF := Fr.enter #[.pointer (some ⟨bb, 0, none⟩), .int .i64 i] 25 (slotsOf [.pointer (some ⟨bb, 0, none⟩), .int .i64 i] 0) (Nat.le_of_ble_eq_true rfl) (fun i v h => by have h2 := (get_slotsOf _ 0 i v h).2; simpa only [List.getElem?_toArray, Nat.sub_zero] using h2)
 rw [Tryd.ntmps18]
 revert hF; generalize (⟨(#[.pointer (some ⟨bb, 0, none⟩), .int .i64 i] : Array Value) ++ Array.replicate (25 - (#[.pointer (some ⟨bb, 0, none⟩), .int .i64 i] : Array Value).size) undef, []⟩ : Act) = a; intro hF
 have hH := Hp.own1 hok 100
 have hfew := hs.few
 have hH := hH.lib 990 hL (fun j Y hY k hk hk2 => by rcases Sx.get_one hY with ⟨_, rfl⟩ | ⟨_, h⟩; exact hLX k hk2 hk; simp [Sx.get] at h)
 obtain ⟨Aw, cw, hV⟩ := hX.row
 have hwl := wy_len s.ways
 refine wp_seq_k fun khK1 hK1 => ?_
 refine wp_region_lit ?_
 refine l_at hF rfl rfl rfl (x_assign rfl) ?_; clear hF; intro a hF
 refine wpList_nil ?_
 refine hK1 _ _ ?_
 refine wp_seq_k fun khK2 hK2 => ?_
 refine wp_region_lit ?_
 refine l_at hF rfl rfl rfl (x_move (hF.tmp 0 rfl)) ?_; clear hF; intro a hF
 refine l_at hF rfl rfl rfl (x_move (hF.tmp 1 rfl)) ?_; clear hF; intro a hF
 have hsz_ := hH.mods.size
 refine wpList_plain rfl fun K hK => ?_
 refine w_call hF (x_enter Tryd.func12 (by kernel_rfl) rfl (by simp only [List.map_toArray, List.map_cons, List.map_nil, hF.tmp 9 rfl, hF.tmp 10 rfl] <;> rfl)) (take_calls _ (hH.holds 990 _ rfl) hX (hH.okX 100 rfl) hs (fun k h hx => hH.sep 100 990 _ _ (by decide) rfl rfl k hx (.inr h)) i) rfl rfl ?_
 rintro _ w ⟨X2, An70, cn70, Ac70, cc70, okm70, rfl, hX2, hg_, ⟨h1_, h2_⟩, hf_, hap_⟩; refine ⟨_, rfl, ?_⟩; clear hF; intro a hF; have hHo := hH; have hH := hHo.grew 100 rfl hg_ (fun k hk => hk.elim); have hH := hH.readNew (w := _) 100 70 (own_old hHo) (fun Y hY => by cases hY; exact hap_) h1_ hf_; have hH := hH.readNew 100 71 (own_old2 hHo) (fun Y hY => by cases hY; exact hap_) h2_ hf_
 refine hK _ _ ?_; clear hK K
 refine l_at hF rfl rfl rfl (x_move (hF.tmp 11 rfl)) ?_; clear hF; intro a hF
 refine l_at hF rfl rfl rfl (x_extract (hF.tmp 8 rfl) rfl) ?_; clear hF; intro a hF
 refine l_at hF rfl rfl rfl (x_extract (hF.tmp 8 rfl) rfl) ?_; clear hF; intro a hF
 refine l_at hF rfl rfl rfl (x_extract (hF.tmp 8 rfl) rfl) ?_; clear hF; intro a hF
 refine wpList_plain rfl fun K hK => ?_
 refine w_alloc 5 hF hH rfl ty30 ?_
 clear hF hH; intro a w b5 hF hH
 refine hK _ _ ?_; clear hK K
 refine wpList_plain rfl fun K hK => ?_
 refine w_storeA 5 hH ty30 rfl (hF.tmp 5 rfl) (hF.tmp 12 rfl) rfl (by simp [Value.cells, Value.oneCell']) rfl ?_
 clear hH; intro w hH
 refine hK _ _ ?_; clear hK K
 refine l_at hF rfl rfl rfl (x_assign (hF.tmp 13 rfl)) ?_; clear hF; intro a hF
 refine l_at hF rfl rfl rfl (x_assign (hF.tmp 14 rfl)) ?_; clear hF; intro a hF
 refine wpList_nil ?_
 refine hK2 _ _ ?_
 refine wp_seq_k fun khK3 hK3 => ?_
 refine wp_seq_k fun khK4 hK4 => ?_
 refine wp_region_lit ?_
 refine l_at hF rfl rfl rfl (x_move (hF.tmp 7 rfl)) ?_; clear hF; intro a hF
 refine l_at hF rfl rfl rfl (x_eql (hF.tmp 15 rfl) rfl) ?_; clear hF; intro a hF
 refine wpList_nil ?_
 refine hK4 _ _ ?_
 refine wp_cond_split (hF.tmp 16 rfl) (fun hc16 => ?_) (fun hc16 => ?_)
 ·have hk16_1 := hc16; try simp only [Bool.or_eq_true, Bool.and_eq_true, Bool.or_eq_false_iff, Bool.and_eq_false_iff, Bool.not_eq_true', Bool.not_eq_false', decide_eq_true_eq, decide_eq_false_iff_not, Bool.not_true, Bool.not_false] at hc16
  have hyes := look_zero hc16
  have hyr := look_yes hyes
  obtain ⟨Aw2, cw2, okw2, rfl⟩ := hX2
  have hH := hH.unbundle (N := [(990, .lib true), (70, .rd_ (.int .i64) An70 ((lookM s i).nodes) cn70 okm70), (71, .rd_ ChgE Ac70 ((lookM s i).changes) cc70 okm70), (5, .blk b5 (.cells #[.int .i64 (lookM s i).kind, .int .i64 (lookM s i).src, .int .i64 (lookM s i).dst, .int .i64 (lookM s i).tx, .slice An70 (lookM s i).nodes.length cn70, .slice Ac70 (lookM s i).changes.length cc70] 30 (0, 0)))]) 100 rfl (sub_cons (sub_cons (sub_cons (sub_cons (sub_nil _) 5 rfl) 71 rfl) 70 rfl) 990 rfl) rfl
  refine wp_region_lit ?_
  refine l_at hF rfl rfl rfl (x_move (hF.tmp 0 rfl)) ?_; clear hF; intro a hF
  refine l_at hF rfl rfl rfl (x_nil (hF.tmp 17 rfl)) ?_; clear hF; intro a hF
  refine l_at hF rfl rfl rfl (x_faddr Tryd.underlying51 rfl ty3 (by decide) (hF.tmp 18 rfl) rfl) ?_; clear hF; intro a hF
  refine l_at hF rfl rfl rfl (x_load1 ty3 (hF.tmp 19 rfl) (blk_cell (hH.at 1 rfl) 9 rfl)) ?_; clear hF; intro a hF
  refine l_at hF rfl rfl rfl (x_add (hF.tmp 20 rfl) rfl rfl) ?_; clear hF; intro a hF
  refine l_at hF rfl rfl rfl (x_nil (hF.tmp 17 rfl)) ?_; clear hF; intro a hF
  refine l_at hF rfl rfl rfl (x_faddr Tryd.underlying51 rfl ty3 (by decide) (hF.tmp 22 rfl) rfl) ?_; clear hF; intro a hF
  refine wpList_plain rfl fun K hK => ?_
  refine w_store 1 hH ty3 rfl (hF.tmp 23 rfl) (hF.tmp 21 rfl) rfl (one1 rfl rfl) (by first | decide | exact Nat.le_of_ble_eq_true rfl) ?_
  clear hH; intro w hH
  refine hK _ _ ?_; clear hK K
  refine wpList_nil ?_
  refine hK3 _ _ ?_
  refine wp_seq_k fun khK5 hK5 => ?_
  refine wp_region_lit ?_
  refine l_at hF rfl rfl rfl (x_move (hF.tmp 7 rfl)) ?_; clear hF; intro a hF
  refine l_at hF rfl rfl rfl (x_assign (hF.tmp 24 rfl)) ?_; clear hF; intro a hF
  refine wpList_nil ?_
  refine hK5 _ _ ?_
  refine wp_ret ?_
  try simp only [Exit.then, Exit.inBlock]
  refine fin_ret hF (res1 hF rfl rfl) ⟨Asn.all [(1, .blk bb (.cells #[.slice Aw2 (wy (takeS s i).ways).length cw2, .int .i64 (gi (takeS s i).eps 0), .int .i64 (gi (takeS s i).eps 1), .int .i64 (gi (takeS s i).eps 2), .int .i64 (gi (takeS s i).eps 3), .int .i64 (gi (takeS s i).eps 4), .int .i64 (gi (takeS s i).eps 5), .int .i64 (gi (takeS s i).eps 6), .int .i64 (gi (takeS s i).eps 7), .int .i64 (w64I ((takeS s i).lost + 1))] 51 (0, 0))), (2, .row WayE 58 (.slice Aw2 (wy (takeS s i).ways).length cw2) (wy (takeS s i).ways) okw2)], rfl, by rw [hyr.2.2.2.2.2.2]; exact ⟨_, _, _, rfl⟩, grew_sub hH (sub_cons (sub_cons (sub_nil _) 2 rfl) 1 rfl) (rdin_cons (fun k h => h.elim) (rdin_cons (fun k h => by rcases hg_.rd k ⟨2, _, rfl, h⟩ with h | h | h | h; exact .inl h; exact .inr (.inl h); exact h.elim; exact .inr (.inr (.inr (Nat.le_trans hsz_ h)))) rdin_nil))⟩
 ·have hk16_2 := hc16; try simp only [Bool.or_eq_true, Bool.and_eq_true, Bool.or_eq_false_iff, Bool.and_eq_false_iff, Bool.not_eq_true', Bool.not_eq_false', decide_eq_true_eq, decide_eq_false_iff_not, Bool.not_true, Bool.not_false] at hc16
  refine wp_skip ?_
  refine hK3 _ _ ?_
  refine wp_seq_k fun khK6 hK6 => ?_
  refine wp_region_lit ?_
  refine l_at hF rfl rfl rfl (x_move (hF.tmp 7 rfl)) ?_; clear hF; intro a hF
  refine l_at hF rfl rfl rfl (x_assign (hF.tmp 24 rfl)) ?_; clear hF; intro a hF
  refine wpList_nil ?_
  refine hK6 _ _ ?_
  refine wp_ret ?_
  try simp only [Exit.then, Exit.inBlock]
  have hno := look_no (look_nz hc16)
  exact fin_ret hF (res1 hF rfl rfl) ⟨X2, rfl, by rw [hno.2.2.2.2.2.2, ← hno.2.2.1]; exact hX2, grew_lab hH 100 rfl (fun k hk => by rcases hg_.rd k hk with h | h | h | h; exact .inl h; exact .inr (.inl h); exact h.elim; exact .inr (.inr (.inr (Nat.le_trans hsz_ h))))⟩
end Go.Proofs.YtfocpadeflpabaaDoor.Act
