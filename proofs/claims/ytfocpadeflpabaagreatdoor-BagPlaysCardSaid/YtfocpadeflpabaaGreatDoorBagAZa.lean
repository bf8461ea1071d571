/- The walks of the bag. -/
import Derived.Test.YtfocpadeflpabaaGreatDoorMdcAZa
import Derived.Test.YtfocpadeflpabaaGreatDoorBagDZa
set_option linter.unusedVariables false
set_option maxRecDepth 100000
set_option maxHeartbeats 1000000
set_option linter.unusedSimpArgs false
namespace Go.Proofs.YtfocpadeflpabaaGreatDoor.Act
open Go.RowKit Go.Proofs.YtfocpadeflpabaaGreatDoor.Sx Go.Proofs.YtfocpadeflpabaaGreatDoor.Cod Go.Proofs.YtfocpadeflpabaaGreatDoor.Num
theorem ty27 : TyI Tryz.prog 27 (.agg #[.int .i64 0, .int .i64 0, .int .i64 0, .int .i64 0, .int .i64 0, .int .i64 0, .int .i64 0, .int .i64 0]) 8 64 true := ⟨by kernel_rfl, _, Tryz.underlying27, rfl⟩
theorem ty52 : TyI Tryz.prog 52 (.slice none 0 0) 1 24 false := ⟨by kernel_rfl, _, Tryz.underlying52, rfl⟩
theorem ty54 : TyI Tryz.prog 54 (.agg #[.slice none 0 0, .int .i64 0, .int .i64 0, .int .i64 0, .int .i64 0, .int .i64 0, .int .i64 0, .int .i64 0, .int .i64 0, .int .i64 0]) 10 96 true := ⟨by kernel_rfl, _, Tryz.underlying54, rfl⟩
theorem ty61 : TyI Tryz.prog 61 (.agg #[.slice none 0 0, .int .i64 0]) 2 32 true := ⟨by kernel_rfl, _, Tryz.underlying61, rfl⟩
theorem del_calls (w0 : World) {ok : Nat → Prop} {A : Option Addr} {xs : List WayD} {c : Nat} (hr : Row WayE 61 w0 ok (.slice A xs.length c) xs) (hinb : ∀ k, ok k → k < w0.heap.size) (hslf : ∀ k, (Value.slice A xs.length c).ownBlock = some k → ¬ ok k) {i : Nat} (hi : i + 1 ≤ xs.length) : Calls Tryz.prog 27 #[.slice A xs.length c, .int .i64 (i : Int), .int .i64 ((i : Int) + 1)] w0 fun e w' => e = .returned (.slice A (xs.take i ++ xs.drop (i + 1)).length c) ∧ Mods (fun k => (Value.slice A xs.length c).ownBlock = some k) w0 w' ∧ Row WayE 61 w' ok (.slice A (xs.take i ++ xs.drop (i + 1)).length c) (xs.take i ++ xs.drop (i + 1)) := by
 have hlc : xs.length ≤ c := (Row.rd hr (fun k h _ => .inl h) (fun k h => .inr h) : Rd WayE w0 (fun k => ok k ∨ (Value.slice A xs.length c).ownBlock = some k) A xs c).1
 have hlm : xs.length ≤ maxLen := (Row.rd hr (fun k h _ => .inl h) (fun k h => .inr h) : Rd WayE w0 (fun k => ok k ∨ (Value.slice A xs.length c).ownBlock = some k) A xs c).le
 unfold maxLen at hlm
 have hlen : (xs.take i ++ xs.drop (i + 1)).length = xs.length - 1 := by rw [List.length_append, List.length_take, List.length_drop]; omega
 have hroom : (xs.take i ++ xs.drop (i + 1)).length + 1 ≤ c := by rw [hlen]; omega
 refine cow Tryz.func27 rfl Tryz.ntmps27 (Nat.le_of_ble_eq_true rfl) fun a F => ?_
 have H := Hp.ownrow 2 hr hinb hslf
 refine sr fun khK1 hK1 => ?_
 refine la F rfl (x_assign rfl) fun a F => ?_
 refine wn (hK1 _ _ ?_)
 refine sr fun khK2 hK2 => ?_
 refine la F rfl (x_move (F.t 0 rfl)) fun a F => ?_
 refine la F rfl (x_move (F.t 1 rfl)) fun a F => ?_
 refine la F rfl (x_move (F.t 2 rfl)) fun a F => ?_
 refine la F rfl (x_move (F.t 0 rfl)) fun a F => ?_
 refine la F rfl (x_len_slice Tryz.underlying52 (F.t 11 rfl)) fun a F => ?_
 refine la F rfl (x_slice3l (E := WayE) Tryz.underlying52 ty61 (F.t 8 rfl) (F.t 9 rfl) (F.t 10 rfl) (F.t 12 rfl) (by omega) (by omega) (by omega) (by have := hlc; omega)) fun a F => ?_
 refine wn (hK2 _ _ ?_)
 refine wp_seq_k fun khK3 hK3 => ?_
 refine sr fun khK4 hK4 => ?_
 refine la F rfl (x_move (F.t 1 rfl)) fun a F => ?_
 refine la F rfl (x_move (F.t 2 rfl)) fun a F => ?_
 refine la F rfl (x_eql (F.t 14 rfl) (F.t 15 rfl)) fun a F => ?_
 refine wn (hK4 _ _ ?_)
 refine wp_cond_false ((F.t 16 rfl).trans (by rw [decide_eq_false (by omega)])) ?_
 refine wp_skip ?_
 refine hK3 _ _ ?_
 refine sr fun khK5 hK5 => ?_
 refine la F rfl (x_move (F.t 0 rfl)) fun a F => ?_
 refine la F rfl (x_len_slice Tryz.underlying52 (F.t 18 rfl)) fun a F => ?_
 refine la F rfl (x_assign (F.t 19 rfl)) fun a F => ?_
 refine wn (hK5 _ _ ?_)
 refine wp_seq_k fun khK6 hK6 => ?_
 refine r_start [] (by kernel_rfl) H fun H => ?_
 have hS : SL [] _ := SL.of H (sub_nil _)
 refine rT 0 F rfl (by kernel_rfl) pq rfl hS (fun w hS => x_move (F.t 0 rfl)) rfl fun a F => ?_
 refine rT 1 F rfl (by kernel_rfl) pq rfl hS (fun w hS => x_move (F.t 1 rfl)) rfl fun a F => ?_
 refine rT 2 F rfl (by kernel_rfl) pq rfl hS (fun w hS => x_slice_h Tryz.underlying52 ty61 (F.t 20 rfl) (F.t 21 rfl) (by omega) (by omega) hlc) rfl fun a F => ?_
 refine rT 3 F rfl (by kernel_rfl) pq rfl hS (fun w hS => x_move (F.t 0 rfl)) rfl fun a F => ?_
 refine rT 4 F rfl (by kernel_rfl) pq rfl hS (fun w hS => x_move (F.t 2 rfl)) rfl fun a F => ?_
 refine rT 5 F rfl (by kernel_rfl) pq rfl hS (fun w hS => x_slice_l (E := WayE) Tryz.underlying52 ty61 (F.t 23 rfl) (F.t 24 rfl) (by omega) (by omega) hlc) rfl fun a F => ?_
 refine r_do 6 rfl (by kernel_rfl) rfl rfl ?_
 refine w_appendDel 2 (i := i) (j := i + 1) F H rfl Tryz.underlying52 ty61 rfl (by omega) hi (F.t 22 rfl) (F.t 25 rfl) ?_
 clear F H; intro a w F H
 refine aN (SL.of H (sub_nil _)) fun hS => ?_
 refine rT 7 F rfl (by kernel_rfl) pq rfl hS (fun w hS => x_assign (F.t 26 rfl)) rfl fun a F => ?_
 refine r_end (by kernel_rfl) ?_; clear hS
 refine hK6 _ _ ?_
 refine sr fun khK7 hK7 => ?_
 refine la F rfl (x_move (F.t 0 rfl)) fun a F => ?_
 refine la F rfl (x_move (F.t 0 rfl)) fun a F => ?_
 refine la F rfl (x_len_slice Tryz.underlying52 (F.t 28 rfl)) fun a F => ?_
 refine la F rfl (x_move (F.t 7 rfl)) fun a F => ?_
 refine la F rfl (x_slice_cap (E := WayE) Tryz.underlying52 ty61 (F.t 27 rfl) (F.t 29 rfl) (F.t 30 rfl) (by omega) (by rw [hlen]; omega) (by have := hlc; omega)) fun a F => ?_
 rw [Int.toNat_natCast, Int.toNat_natCast, show xs.length - (xs.take i ++ xs.drop (i + 1)).length = 1 by rw [hlen]; omega] at F
 refine lp rfl ?_
 refine w_clear (E := WayE) 2 (m := 1) H Tryz.underlying52 ty61 (by decide) (by decide) rfl (by decide) hroom (F.t 31 rfl) ?_
 clear H; intro w H
 refine wn (hK7 _ _ ?_)
 refine sr fun khK8 hK8 => ?_
 refine la F rfl (x_move (F.t 0 rfl)) fun a F => ?_
 refine la F rfl (x_assign (F.t 32 rfl)) fun a F => ?_
 refine wn (hK8 _ _ ?_)
 refine wp_ret ?_
 try simp only [Exit.then, Exit.inBlock]
 exact fin_ret F (res1 F rfl rfl) ⟨rfl, H.mods, H.row 2 rfl⟩
theorem bnew_calls (w0 : World) : Calls Tryz.prog 4 #[] w0 fun e w' => ∃ bb X, e = .returned (.pointer (some ⟨bb, 0, none⟩)) ∧ BagA 54 61 bb bag0 X ∧ X.ok w' ∧ Mods (fun _ => False) w0 w' ∧ (∀ k, X.own k → w0.heap.size ≤ k) ∧ ∀ k, X.rd k → False := by
 refine cow Tryz.func4 rfl Tryz.ntmps4 (Nat.le_of_ble_eq_true rfl) fun a F => ?_
 have H := Hp.nil (fun _ => False) w0
 refine sr fun khK1 hK1 => ?_
 refine la F rfl (x_assign rfl) fun a F => ?_
 refine wn (hK1 _ _ ?_)
 refine sr fun khK2 hK2 => ?_
 refine la F rfl (x_buildS (cells := #[.slice none 0 0, .int .i64 0, .int .i64 0, .int .i64 0, .int .i64 0, .int .i64 0, .int .i64 0, .int .i64 0, .int .i64 0, .int .i64 0]) (places := #[(0, 1), (1, 8), (9, 1)]) Tryz.underlying54 ty54 (by kernel_rfl) Array.map_empty rfl) fun a F => ?_
 refine lp rfl ?_
 refine w_box 1 F H rfl (F.t 1 rfl) ?_
 clear F H; intro a w b2 F H
 refine la F rfl (x_assign (F.t 2 rfl)) fun a F => ?_
 refine wn (hK2 _ _ ?_)
 refine wp_ret ?_
 try simp only [Exit.then, Exit.inBlock]
 have H := H.row0 2 WayE 61
 have hl := H.sub [(1, .blk b2 (.cells #[.slice none 0 0, .int .i64 0, .int .i64 0, .int .i64 0, .int .i64 0, .int .i64 0, .int .i64 0, .int .i64 0, .int .i64 0, .int .i64 0] 54 (0, 0))), (2, .row WayE 61 (.slice none 0 0) [] (fun _ => False))] (sub_cons (sub_cons (sub_nil _) 2 rfl) 1 rfl)
 exact fin_ret F (res1 F rfl rfl) ⟨b2, _, rfl, ⟨none, 0, _, rfl⟩, hl.okAll, hl.mods, own_cons (fun k hk => (hl.mine 1 _ rfl k hk).resolve_left (fun h => h)) (own_cons (fun k hk => (hl.mine 2 _ rfl k hk).resolve_left (fun h => h)) own_nil), rdin_cons (fun k h => h.elim) (rdin_cons (fun k h => h.elim) rdin_nil)⟩
theorem put_calls (w0 : World) {X : Asn} {bb : Nat} {s : BagS} (hX : BagA 54 61 bb s X) (hok : X.ok w0) (hs : BagOk s) {okb : Nat → Prop} {Ab : Option Addr} {cb : Nat} {p : MessageD × Int} (hrb : Rd (.int .u8) w0 okb Ab (encM p.1) cb) (hbin : ∀ k, okb k → k < w0.heap.size) (hbs : ∀ k, okb k → ¬ X.own k) : Calls Tryz.prog 24 #[.pointer (some ⟨bb, 0, none⟩), .agg #[.slice Ab (encM p.1).length cb, .int .i64 p.2]] w0 fun e w' => ∃ X', e = .returned (.int .i64 (putE s)) ∧ BagA 54 61 bb (putS s p) X' ∧ Grew (fun _ => False) okb X w0 w' X' := by
 obtain ⟨Aw, cw, okw, rfl⟩ := hX
 refine cow Tryz.func24 rfl Tryz.ntmps24 (Nat.le_of_ble_eq_true rfl) fun a F => ?_
 have H := Hp.ofAll hok.holds
 have hfew := hs.few
 have hwl := wy_len s.ways
 have H := H.readable 901 hrb hbin (fun i A_ hA k hk hk2 => hbs k hk2 ⟨i, A_, hA, hk⟩)
 refine sr fun khK1 hK1 => ?_
 refine lp rfl ?_
 refine w_box 3 F H rfl (F.t 1 rfl) ?_
 clear F H; intro a w b3 F H
 refine la F rfl (x_assign rfl) fun a F => ?_
 refine wn (hK1 _ _ ?_)
 refine wp_seq_k fun khK2 hK2 => ?_
 refine sr fun khK3 hK3 => ?_
 refine la F rfl (x_move (F.t 0 rfl)) fun a F => ?_
 refine la F rfl (x_nil (F.t 5 rfl)) fun a F => ?_
 refine la F rfl (x_faddr Tryz.underlying54 rfl ty52 (by decide) (F.t 6 rfl) rfl) fun a F => ?_
 refine la F rfl (x_load1 ty52 (F.t 7 rfl) (blk_cell (H.at 1 rfl) 0 rfl)) fun a F => ?_
 refine la F rfl (x_len_slice Tryz.underlying52 (F.t 8 rfl)) fun a F => ?_
 refine la F rfl (x_geq (F.t 9 rfl) rfl) fun a F => ?_
 refine wn (hK3 _ _ ?_)
 refine wp_cond_split (F.t 10 rfl) (fun hc10 => ?_) (fun hc10 => ?_)
 ·have hk10_1 := hc10; try simp only [bL] at hc10
  have hcf : (500 : Int) ≤ (s.ways.length : Int) := by omega
  refine sr fun khK4 hK4 => ?_
  refine la F rfl (x_move (F.t 0 rfl)) fun a F => ?_
  refine la F rfl (x_nil (F.t 11 rfl)) fun a F => ?_
  refine la F rfl (x_faddr Tryz.underlying54 rfl ty3 (by decide) (F.t 12 rfl) rfl) fun a F => ?_
  refine la F rfl (x_load1 ty3 (F.t 13 rfl) (blk_cell (H.at 1 rfl) 9 rfl)) fun a F => ?_
  refine la F rfl (x_add (F.t 14 rfl) rfl rfl) fun a F => ?_
  refine la F rfl (x_nil (F.t 11 rfl)) fun a F => ?_
  refine la F rfl (x_faddr Tryz.underlying54 rfl ty3 (by decide) (F.t 16 rfl) rfl) fun a F => ?_
  refine lp rfl ?_
  refine w_store 1 H ty3 rfl (F.t 17 rfl) (F.t 15 rfl) rfl (one1 rfl rfl) (by first | decide | exact Nat.le_of_ble_eq_true rfl) ?_
  clear H; intro w H
  refine wn (hK4 _ _ ?_)
  refine sr fun khK5 hK5 => ?_
  refine la F rfl (x_assign rfl) fun a F => ?_
  refine wn (hK5 _ _ ?_)
  refine wp_ret ?_
  try simp only [Exit.then, Exit.inBlock]
  have hE_ := (put_full (p := p) hcf).1
  have hM_ := (put_full (p := p) hcf).2
  refine fin_ret F (res1 F rfl rfl) ⟨Asn.all [(1, .blk bb (.cells #[.slice Aw (wy s.ways).length cw, .int .i64 (gi s.eps 0), .int .i64 (gi s.eps 1), .int .i64 (gi s.eps 2), .int .i64 (gi s.eps 3), .int .i64 (gi s.eps 4), .int .i64 (gi s.eps 5), .int .i64 (gi s.eps 6), .int .i64 (gi s.eps 7), .int .i64 (w64I (s.lost + 1))] 54 (0, 0))), (2, .row WayE 61 (.slice Aw (wy s.ways).length cw) (wy s.ways) okw)], by rw [hE_] <;> rfl, by rw [hM_]; exact ⟨_, _, _, rfl⟩, grew_of (H.sub [(1, .blk bb (.cells #[.slice Aw (wy s.ways).length cw, .int .i64 (gi s.eps 0), .int .i64 (gi s.eps 1), .int .i64 (gi s.eps 2), .int .i64 (gi s.eps 3), .int .i64 (gi s.eps 4), .int .i64 (gi s.eps 5), .int .i64 (gi s.eps 6), .int .i64 (gi s.eps 7), .int .i64 (w64I (s.lost + 1))] 54 (0, 0))), (2, .row WayE 61 (.slice Aw (wy s.ways).length cw) (wy s.ways) okw)] (sub_cons (sub_cons (sub_nil _) 2 rfl) 1 rfl)) (rdin_cons (fun k h => h.elim) (rdin_cons (fun k h => .inr (.inl ⟨2, _, rfl, h⟩)) rdin_nil))⟩
 ·have hk10_2 := hc10; try simp only [bL] at hc10
  have hcf : ¬ (500 : Int) ≤ (s.ways.length : Int) := by omega
  refine wp_skip ?_
  refine hK2 _ _ ?_
  refine wp_seq_k fun khK6 hK6 => ?_
  have hJr4 : ∀ a w, ∀ A25 : Option Addr, ∀ b24 : Nat, ∀ c25 : Nat, ((OwnL [(1, .blk bb (.cells #[.slice Aw (wy s.ways).length cw, .int .i64 (gi s.eps 0), .int .i64 (gi s.eps 1), .int .i64 (gi s.eps 2), .int .i64 (gi s.eps 3), .int .i64 (gi s.eps 4), .int .i64 (gi s.eps 5), .int .i64 (gi s.eps 6), .int .i64 (gi s.eps 7), .int .i64 s.lost] 54 (0, 0))), (2, .row WayE 61 (.slice Aw (wy s.ways).length cw) (wy s.ways) okw)]) b24 ∨ w0.heap.size ≤ b24) → Fr 28 a [] → Hp (OwnL [(1, .blk bb (.cells #[.slice Aw (wy s.ways).length cw, .int .i64 (gi s.eps 0), .int .i64 (gi s.eps 1), .int .i64 (gi s.eps 2), .int .i64 (gi s.eps 3), .int .i64 (gi s.eps 4), .int .i64 (gi s.eps 5), .int .i64 (gi s.eps 6), .int .i64 (gi s.eps 7), .int .i64 s.lost] 54 (0, 0))), (2, .row WayE 61 (.slice Aw (wy s.ways).length cw) (wy s.ways) okw)]) w0 w [(1, .blk bb (.cells #[.slice A25 ((wy s.ways) ++ [(⟨encM p.1, p.2⟩ : WayD)]).length c25, .int .i64 (gi s.eps 0), .int .i64 (gi s.eps 1), .int .i64 (gi s.eps 2), .int .i64 (gi s.eps 3), .int .i64 (gi s.eps 4), .int .i64 (gi s.eps 5), .int .i64 (gi s.eps 6), .int .i64 (gi s.eps 7), .int .i64 s.lost] 54 (0, 0))), (2, .row WayE 61 (.slice A25 ((wy s.ways) ++ [(⟨encM p.1, p.2⟩ : WayD)]).length c25) ((wy s.ways) ++ [(⟨encM p.1, p.2⟩ : WayD)]) (fun kb => okw kb ∨ (fun kb => okb kb ∨ kb = b24) kb)), (901, .rd_ (.int .u8) Ab (encM p.1) cb okb), (3, .blk b3 (.cells #[.slice Ab (encM p.1).length cb, .int .i64 p.2] 61 (0, 0))), (24, .rd_ WayE (some ⟨b24, 0, none⟩) [(⟨encM p.1, p.2⟩ : WayD)] 1 (fun kb => okb kb ∨ kb = b24))] → khK6 a w := by
   intro a w A25 b24 c25 hjr4_0 F H
   refine hK6 a w ?_
   refine sr fun khK7 hK7 => ?_
   refine la F rfl (x_assign rfl) fun a F => ?_
   refine wn (hK7 _ _ ?_)
   refine wp_ret ?_
   try simp only [Exit.then, Exit.inBlock]
   have hlw : ((wy s.ways) ++ [(⟨encM p.1, p.2⟩ : WayD)]) = wy (s.ways ++ [p]) := wy_put _ _
   rw [hlw] at H
   have hE_ := (put_room (p := p) hcf).1
   have hM_ := (put_room (p := p) hcf).2
   refine fin_ret F (res1 F rfl rfl) ⟨Asn.all [(1, .blk bb (.cells #[.slice A25 (wy (s.ways ++ [p])).length c25, .int .i64 (gi s.eps 0), .int .i64 (gi s.eps 1), .int .i64 (gi s.eps 2), .int .i64 (gi s.eps 3), .int .i64 (gi s.eps 4), .int .i64 (gi s.eps 5), .int .i64 (gi s.eps 6), .int .i64 (gi s.eps 7), .int .i64 s.lost] 54 (0, 0))), (2, .row WayE 61 (.slice A25 (wy (s.ways ++ [p])).length c25) (wy (s.ways ++ [p])) (fun kb => okw kb ∨ (fun kb => okb kb ∨ kb = b24) kb))], by rw [hE_] <;> rfl, by rw [hM_]; exact ⟨_, _, _, rfl⟩, grew_of (H.sub [(1, .blk bb (.cells #[.slice A25 (wy (s.ways ++ [p])).length c25, .int .i64 (gi s.eps 0), .int .i64 (gi s.eps 1), .int .i64 (gi s.eps 2), .int .i64 (gi s.eps 3), .int .i64 (gi s.eps 4), .int .i64 (gi s.eps 5), .int .i64 (gi s.eps 6), .int .i64 (gi s.eps 7), .int .i64 s.lost] 54 (0, 0))), (2, .row WayE 61 (.slice A25 (wy (s.ways ++ [p])).length c25) (wy (s.ways ++ [p])) (fun kb => okw kb ∨ (fun kb => okb kb ∨ kb = b24) kb))] (sub_cons (sub_cons (sub_nil _) 2 rfl) 1 rfl)) (rdin_cons (fun k h => h.elim) (rdin_cons (fun k h => by rcases h with h | h | rfl; exact .inr (.inl ⟨2, _, rfl, h⟩); exact .inr (.inr (.inl h)); exact hjr4_0.elim .inl (fun h => .inr (.inr (.inr h)))) rdin_nil))⟩
  refine r_start [(3, .blk b3 (.cells #[.slice Ab (encM p.1).length cb, .int .i64 p.2] 61 (0, 0)))] (by kernel_rfl) H fun H => ?_
  have hS : SL [(3, .blk b3 (.cells #[.slice Ab (encM p.1).length cb, .int .i64 p.2] 61 (0, 0)))] _ := SL.of H (sub_cons (sub_nil _) 3 rfl)
  refine rT 0 F rfl (by kernel_rfl) pq rfl hS (fun w hS => x_move (F.t 0 rfl)) rfl fun a F => ?_
  refine rT 1 F rfl (by kernel_rfl) pq rfl hS (fun w hS => x_move (F.t 0 rfl)) rfl fun a F => ?_
  refine rT 2 F rfl (by kernel_rfl) pq rfl hS (fun w hS => x_nil (F.t 19 rfl)) rfl fun a F => ?_
  refine rT 3 F rfl (by kernel_rfl) pq rfl hS (fun w hS => x_faddr Tryz.underlying54 rfl ty52 (by decide) (F.t 20 rfl) rfl) rfl fun a F => ?_
  refine rT 5 F rfl (by kernel_rfl) pq rfl hS (fun w hS => x_loadn ty61 (F.t 3 rfl) rfl (blk_whole (SL.at_ hS 3 rfl))) rfl fun a F => ?_
  refine r_do2 4 6 rfl rfl (by kernel_rfl) rfl rfl rfl rfl ?_ ?_
  ·
   refine w_at F (x_load1 ty52 (F.t 21 rfl) (blk_cell (H.at 1 rfl) 0 rfl)) rfl rfl ?_
   clear F; intro a F
   refine aN (SL.of H (sub_cons (sub_nil _) 3 rfl)) fun hS => ?_
   refine r_do 6 rfl (by kernel_rfl) rfl rfl ?_
   refine w_lit1 24 WayE (⟨encM p.1, p.2⟩ : WayD) #[.slice Ab (encM p.1).length cb, .int .i64 p.2] okb F H rfl Tryz.underlying52 ty61 (by simp only [bM, F.t 23 rfl] <;> rfl) (by decide) (by kernel_rfl) (way_mk (⟨encM p.1, p.2⟩ : WayD) (H.rd 901 rfl)) (fun kb hk => ⟨901, _, rfl, hk⟩) ?_
   clear F H; intro a w b24 F hb24_ H
   refine aN (SL.of H (sub_cons (sub_nil _) 3 rfl)) fun hS => ?_
   refine r_do 7 rfl (by kernel_rfl) rfl rfl ?_
   refine w_append 2 24 (xs := (wy s.ways)) (ys := ([(⟨encM p.1, p.2⟩ : WayD)])) F H rfl Tryz.underlying52 ty61 rfl rfl rfl rfl ((H.rd 24 rfl)) (by intro k_ hk_; exact .inr hk_) (F.t 22 rfl) (F.t 24 rfl) (by simp only [List.length_cons, List.length_nil]; omega) (by simp only [List.length_cons, List.length_nil, maxLen]; omega) (fun kb => okw kb ∨ (fun kb => okb kb ∨ kb = b24) kb) (fun w' v' h => h) (by rintro k_ (hk_ | hk_); exact .inl hk_; exact .inr hk_) ?_
   clear F H; intro a w v25 F H
   refine aN (SL.of H (sub_cons (sub_nil _) 3 rfl)) fun hS => ?_
   obtain ⟨A25, c25, rfl⟩ := (H.row 2 rfl).form
   refine rT 8 F rfl (by kernel_rfl) pq rfl hS (fun w hS => x_nil (F.t 18 rfl)) rfl fun a F => ?_
   refine rT 9 F rfl (by kernel_rfl) pq rfl hS (fun w hS => x_faddr Tryz.underlying54 rfl ty52 (by decide) (F.t 26 rfl) rfl) rfl fun a F => ?_
   refine r_do 10 rfl (by kernel_rfl) rfl rfl ?_
   refine w_store 1 H ty52 rfl (F.t 27 rfl) (F.t 25 rfl) rfl (one1 rfl rfl) (by first | decide | exact Nat.le_of_ble_eq_true rfl) ?_
   clear H; intro w H
   refine aN (SL.of H (sub_cons (sub_nil _) 3 rfl)) fun hS => ?_
   refine r_end (by kernel_rfl) ?_; clear hS
   exact hJr4 _ _ _ _ _ hb24_ F.bare (H.sub _ (sub_cons (sub_cons (sub_cons (sub_cons (sub_cons (sub_nil _) 24 rfl) 3 rfl) 901 rfl) 2 rfl) 1 rfl))
  ·
   refine w_lit1 24 WayE (⟨encM p.1, p.2⟩ : WayD) #[.slice Ab (encM p.1).length cb, .int .i64 p.2] okb F H rfl Tryz.underlying52 ty61 (by simp only [bM, F.t 23 rfl] <;> rfl) (by decide) (by kernel_rfl) (way_mk (⟨encM p.1, p.2⟩ : WayD) (H.rd 901 rfl)) (fun kb hk => ⟨901, _, rfl, hk⟩) ?_
   clear F H; intro a w b24 F hb24_ H
   refine aN (SL.of H (sub_cons (sub_nil _) 3 rfl)) fun hS => ?_
   refine r_do 4 rfl (by kernel_rfl) rfl rfl ?_
   refine w_at F (x_load1 ty52 (F.t 21 rfl) (blk_cell (H.at 1 rfl) 0 rfl)) rfl rfl ?_
   clear F; intro a F
   refine aN (SL.of H (sub_cons (sub_nil _) 3 rfl)) fun hS => ?_
   refine r_do 7 rfl (by kernel_rfl) rfl rfl ?_
   refine w_append 2 24 (xs := (wy s.ways)) (ys := ([(⟨encM p.1, p.2⟩ : WayD)])) F H rfl Tryz.underlying52 ty61 rfl rfl rfl rfl ((H.rd 24 rfl)) (by intro k_ hk_; exact .inr hk_) (F.t 22 rfl) (F.t 24 rfl) (by simp only [List.length_cons, List.length_nil]; omega) (by simp only [List.length_cons, List.length_nil, maxLen]; omega) (fun kb => okw kb ∨ (fun kb => okb kb ∨ kb = b24) kb) (fun w' v' h => h) (by rintro k_ (hk_ | hk_); exact .inl hk_; exact .inr hk_) ?_
   clear F H; intro a w v25 F H
   refine aN (SL.of H (sub_cons (sub_nil _) 3 rfl)) fun hS => ?_
   obtain ⟨A25, c25, rfl⟩ := (H.row 2 rfl).form
   refine rT 8 F rfl (by kernel_rfl) pq rfl hS (fun w hS => x_nil (F.t 18 rfl)) rfl fun a F => ?_
   refine rT 9 F rfl (by kernel_rfl) pq rfl hS (fun w hS => x_faddr Tryz.underlying54 rfl ty52 (by decide) (F.t 26 rfl) rfl) rfl fun a F => ?_
   refine r_do 10 rfl (by kernel_rfl) rfl rfl ?_
   refine w_store 1 H ty52 rfl (F.t 27 rfl) (F.t 25 rfl) rfl (one1 rfl rfl) (by first | decide | exact Nat.le_of_ble_eq_true rfl) ?_
   clear H; intro w H
   refine aN (SL.of H (sub_cons (sub_nil _) 3 rfl)) fun hS => ?_
   refine r_end (by kernel_rfl) ?_; clear hS
   exact hJr4 _ _ _ _ _ hb24_ F.bare (H.sub _ (sub_cons (sub_cons (sub_cons (sub_cons (sub_cons (sub_nil _) 24 rfl) 3 rfl) 901 rfl) 2 rfl) 1 rfl))
theorem blen_calls (w0 : World) {X : Asn} {bb : Nat} {s : BagS} (hX : BagA 54 61 bb s X) (hok : X.ok w0) (hs : BagOk s) : Calls Tryz.prog 17 #[.pointer (some ⟨bb, 0, none⟩)] w0 fun e w' => e = .returned (.int .i64 (s.ways.length : Int)) ∧ Mods (fun _ => False) w0 w' := by
 obtain ⟨Aw, cw, okw, rfl⟩ := hX
 refine cow Tryz.func17 rfl Tryz.ntmps17 (Nat.le_of_ble_eq_true rfl) fun a F => ?_
 have H := two_ro hok.holds
 have hfew := hs.few
 have hwl := wy_len s.ways
 have H := H.addro 3 (.rd_ WayE Aw (wy s.ways) cw (fun k => (Asn.row WayE 61 (.slice Aw (wy s.ways).length cw) (wy s.ways) okw).own k ∨ (Asn.row WayE 61 (.slice Aw (wy s.ways).length cw) (wy s.ways) okw).rd k)) (fun _ h => h) (row_ro (H.holds 2 _ rfl)) (fun k hk => ⟨2, _, rfl, hk⟩)
 refine sr fun khK1 hK1 => ?_
 refine la F rfl (x_assign rfl) fun a F => ?_
 refine wn (hK1 _ _ ?_)
 refine wp_seq_k fun khK2 hK2 => ?_
 refine sr fun khK3 hK3 => ?_
 refine la F rfl (x_move (F.t 0 rfl)) fun a F => ?_
 refine la F rfl (x_ptrnil Tryz.underlying23 (F.t 3 rfl) rfl) fun a F => ?_
 refine wn (hK3 _ _ ?_)
 refine wp_cond_false (F.t 4 rfl) ?_
 refine wp_skip ?_
 refine hK2 _ _ ?_
 refine sr fun khK4 hK4 => ?_
 refine la F rfl (x_move (F.t 0 rfl)) fun a F => ?_
 refine la F rfl (x_nil (F.t 5 rfl)) fun a F => ?_
 refine la F rfl (x_faddr Tryz.underlying54 rfl ty52 (by decide) (F.t 6 rfl) rfl) fun a F => ?_
 refine la F rfl (x_load1 ty52 (F.t 7 rfl) (blk_cell (H.atro 1 rfl) 0 rfl)) fun a F => ?_
 refine la F rfl (x_len_slice Tryz.underlying52 (F.t 8 rfl)) fun a F => ?_
 refine la F rfl (x_assign (F.t 9 rfl)) fun a F => ?_
 refine wn (hK4 _ _ ?_)
 refine wp_ret ?_
 try simp only [Exit.then, Exit.inBlock]
 rw [hwl] at F
 exact fin_ret F (res1 F rfl rfl) ⟨rfl, H.mods⟩
theorem lost_calls (w0 : World) {X : Asn} {bb : Nat} {s : BagS} (hX : BagA 54 61 bb s X) (hok : X.ok w0) (hs : BagOk s) : Calls Tryz.prog 18 #[.pointer (some ⟨bb, 0, none⟩)] w0 fun e w' => e = .returned (.int .i64 s.lost) ∧ Mods (fun _ => False) w0 w' := by
 obtain ⟨Aw, cw, okw, rfl⟩ := hX
 refine cow Tryz.func18 rfl Tryz.ntmps18 (Nat.le_of_ble_eq_true rfl) fun a F => ?_
 have H := two_ro hok.holds
 have hfew := hs.few
 have hwl := wy_len s.ways
 have H := H.addro 3 (.rd_ WayE Aw (wy s.ways) cw (fun k => (Asn.row WayE 61 (.slice Aw (wy s.ways).length cw) (wy s.ways) okw).own k ∨ (Asn.row WayE 61 (.slice Aw (wy s.ways).length cw) (wy s.ways) okw).rd k)) (fun _ h => h) (row_ro (H.holds 2 _ rfl)) (fun k hk => ⟨2, _, rfl, hk⟩)
 refine sr fun khK1 hK1 => ?_
 refine la F rfl (x_assign rfl) fun a F => ?_
 refine wn (hK1 _ _ ?_)
 refine wp_seq_k fun khK2 hK2 => ?_
 refine sr fun khK3 hK3 => ?_
 refine la F rfl (x_move (F.t 0 rfl)) fun a F => ?_
 refine la F rfl (x_ptrnil Tryz.underlying23 (F.t 3 rfl) rfl) fun a F => ?_
 refine wn (hK3 _ _ ?_)
 refine wp_cond_false (F.t 4 rfl) ?_
 refine wp_skip ?_
 refine hK2 _ _ ?_
 refine sr fun khK4 hK4 => ?_
 refine la F rfl (x_move (F.t 0 rfl)) fun a F => ?_
 refine la F rfl (x_nil (F.t 5 rfl)) fun a F => ?_
 refine la F rfl (x_faddr Tryz.underlying54 rfl ty3 (by decide) (F.t 6 rfl) rfl) fun a F => ?_
 refine la F rfl (x_load1 ty3 (F.t 7 rfl) (blk_cell (H.atro 1 rfl) 9 rfl)) fun a F => ?_
 refine la F rfl (x_assign (F.t 8 rfl)) fun a F => ?_
 refine wn (hK4 _ _ ?_)
 refine wp_ret ?_
 try simp only [Exit.then, Exit.inBlock]
 exact fin_ret F (res1 F rfl rfl) ⟨rfl, H.mods⟩
theorem epoch_calls (w0 : World) {X : Asn} {bb : Nat} {s : BagS} (hX : BagA 54 61 bb s X) (hok : X.ok w0) (hs : BagOk s) (n : Int) : Calls Tryz.prog 20 #[.pointer (some ⟨bb, 0, none⟩), .int .i64 n] w0 fun e w' => e = .returned (.int .i64 (epoS s n)) ∧ Mods (fun _ => False) w0 w' := by
 obtain ⟨Aw, cw, okw, rfl⟩ := hX
 refine cow Tryz.func20 rfl Tryz.ntmps20 (Nat.le_of_ble_eq_true rfl) fun a F => ?_
 have H := two_ro hok.holds
 have hfew := hs.few
 have hwl := wy_len s.ways
 have H := H.addro 3 (.rd_ WayE Aw (wy s.ways) cw (fun k => (Asn.row WayE 61 (.slice Aw (wy s.ways).length cw) (wy s.ways) okw).own k ∨ (Asn.row WayE 61 (.slice Aw (wy s.ways).length cw) (wy s.ways) okw).rd k)) (fun _ h => h) (row_ro (H.holds 2 _ rfl)) (fun k hk => ⟨2, _, rfl, hk⟩)
 refine sr fun khK1 hK1 => ?_
 refine la F rfl (x_assign rfl) fun a F => ?_
 refine wn (hK1 _ _ ?_)
 refine wp_seq_k fun khK2 hK2 => ?_
 refine sr fun khK3 hK3 => ?_
 refine la F rfl (x_move (F.t 0 rfl)) fun a F => ?_
 refine la F rfl (x_ptrnil Tryz.underlying23 (F.t 5 rfl) rfl) fun a F => ?_
 refine la F rfl (x_move (F.t 6 rfl)) fun a F => ?_
 refine lg F rfl (x_move (F.t 1 rfl)) fun a F => ?_
 refine lg F rfl (x_lss (F.t 8 rfl) rfl) fun a F => ?_
 refine la F rfl (x_pickF (F.t 7 rfl) rfl (F.t 9 rfl)) fun a F => ?_
 refine la F rfl (x_move (F.t 10 rfl)) fun a F => ?_
 refine split_bool F 11 rfl (fun hb11 => ?_) (fun hb11 => ?_)
 ·have hc11 := hb11; try simp only [bL] at hc11
  have hno := rest_no (s := s) (in8_neg hc11)
  refine los F hb11 rfl fun a F => ?_
  refine los F hb11 rfl fun a F => ?_
  refine la F rfl (x_pickT (F.t 11 rfl) hb11 rfl) fun a F => ?_
  refine wn (hK3 _ _ ?_)
  refine wp_cond_true (F.t 14 rfl) ?_
  refine sr fun khK4 hK4 => ?_
  refine la F rfl (x_assign rfl) fun a F => ?_
  refine wn (hK4 _ _ ?_)
  refine wp_ret ?_
  try simp only [Exit.then, Exit.inBlock]
  exact fin_ret F (res1 F rfl rfl) ⟨by rw [hno.2.2] <;> rfl, H.mods⟩
 ·have hc11 := hb11; try simp only [bL] at hc11
  refine lgs F hb11 rfl (x_move (F.t 1 rfl)) fun a F => ?_
  refine lgs F hb11 rfl (x_geq (F.t 12 rfl) rfl) fun a F => ?_
  refine la F rfl (x_pickF (F.t 11 rfl) hb11 (F.t 13 rfl)) fun a F => ?_
  refine wn (hK3 _ _ ?_)
  refine wp_cond_split (F.t 14 rfl) (fun hc14 => ?_) (fun hc14 => ?_)
  ·have hk14_1 := hc14; try simp only [bL] at hc14
   have hno := rest_no (s := s) (in8_big hc14)
   refine sr fun khK5 hK5 => ?_
   refine la F rfl (x_assign rfl) fun a F => ?_
   refine wn (hK5 _ _ ?_)
   refine wp_ret ?_
   try simp only [Exit.then, Exit.inBlock]
   exact fin_ret F (res1 F rfl rfl) ⟨by rw [hno.2.2] <;> rfl, H.mods⟩
  ·have hk14_2 := hc14; try simp only [bL] at hc14
   have hyes := rest_yes (s := s) (in8_yes hc11 hc14)
   refine wp_skip ?_
   refine hK2 _ _ ?_
   refine sr fun khK6 hK6 => ?_
   refine la F rfl (x_move (F.t 0 rfl)) fun a F => ?_
   refine la F rfl (x_move (F.t 1 rfl)) fun a F => ?_
   refine la F rfl (x_nil (F.t 15 rfl)) fun a F => ?_
   refine la F rfl (x_faddr Tryz.underlying54 rfl ty27 (by decide) (F.t 17 rfl) rfl) fun a F => ?_
   refine la F rfl (x_iaddr_arr Tryz.underlying27 ty3 (F.t 18 rfl) (F.t 16 rfl) (by omega) (by omega)) fun a F => ?_
   refine la F rfl (x_load1 ty3 (F.t 19 rfl) (blk_cell (H.atro 1 rfl) _ (eps_at (by omega) (by omega)))) fun a F => ?_
   refine la F rfl (x_assign (F.t 20 rfl)) fun a F => ?_
   refine wn (hK6 _ _ ?_)
   refine wp_ret ?_
   try simp only [Exit.then, Exit.inBlock]
   exact fin_ret F (res1 F rfl rfl) ⟨by rw [hyes.2.2] <;> rfl, H.mods⟩
theorem restart_calls (w0 : World) {X : Asn} {bb : Nat} {s : BagS} (hX : BagA 54 61 bb s X) (hok : X.ok w0) (hs : BagOk s) (n : Int) : Calls Tryz.prog 15 #[.pointer (some ⟨bb, 0, none⟩), .int .i64 n] w0 fun e w' => ∃ X', e = .returned (.int .i64 (rstE n)) ∧ BagA 54 61 bb (rstS s n) X' ∧ Grew (fun _ => False) (fun _ => False) X w0 w' X' := by
 obtain ⟨Aw, cw, okw, rfl⟩ := hX
 refine cow Tryz.func15 rfl Tryz.ntmps15 (Nat.le_of_ble_eq_true rfl) fun a F => ?_
 have H := Hp.ofAll hok.holds
 have hfew := hs.few
 have hwl := wy_len s.ways
 refine sr fun khK1 hK1 => ?_
 refine la F rfl (x_assign rfl) fun a F => ?_
 refine wn (hK1 _ _ ?_)
 refine wp_seq_k fun khK2 hK2 => ?_
 refine sr fun khK3 hK3 => ?_
 refine la F rfl (x_move (F.t 0 rfl)) fun a F => ?_
 refine la F rfl (x_ptrnil Tryz.underlying23 (F.t 5 rfl) rfl) fun a F => ?_
 refine la F rfl (x_move (F.t 6 rfl)) fun a F => ?_
 refine lg F rfl (x_move (F.t 1 rfl)) fun a F => ?_
 refine lg F rfl (x_lss (F.t 8 rfl) rfl) fun a F => ?_
 refine la F rfl (x_pickF (F.t 7 rfl) rfl (F.t 9 rfl)) fun a F => ?_
 refine la F rfl (x_move (F.t 10 rfl)) fun a F => ?_
 refine split_bool F 11 rfl (fun hb11 => ?_) (fun hb11 => ?_)
 ·have hc11 := hb11; try simp only [bL] at hc11
  have hno := rest_no (s := s) (in8_neg hc11)
  refine los F hb11 rfl fun a F => ?_
  refine los F hb11 rfl fun a F => ?_
  refine la F rfl (x_pickT (F.t 11 rfl) hb11 rfl) fun a F => ?_
  refine wn (hK3 _ _ ?_)
  refine wp_cond_true (F.t 14 rfl) ?_
  refine sr fun khK4 hK4 => ?_
  refine la F rfl (x_assign rfl) fun a F => ?_
  refine wn (hK4 _ _ ?_)
  refine wp_ret ?_
  try simp only [Exit.then, Exit.inBlock]
  have hE_ := hno.1
  have hM_ := hno.2.1
  refine fin_ret F (res1 F rfl rfl) ⟨Asn.all [(1, .blk bb (.cells #[.slice Aw (wy s.ways).length cw, .int .i64 (gi s.eps 0), .int .i64 (gi s.eps 1), .int .i64 (gi s.eps 2), .int .i64 (gi s.eps 3), .int .i64 (gi s.eps 4), .int .i64 (gi s.eps 5), .int .i64 (gi s.eps 6), .int .i64 (gi s.eps 7), .int .i64 s.lost] 54 (0, 0))), (2, .row WayE 61 (.slice Aw (wy s.ways).length cw) (wy s.ways) okw)], by rw [hE_] <;> rfl, by rw [hM_]; exact ⟨_, _, _, rfl⟩, grew_of (H.sub [(1, .blk bb (.cells #[.slice Aw (wy s.ways).length cw, .int .i64 (gi s.eps 0), .int .i64 (gi s.eps 1), .int .i64 (gi s.eps 2), .int .i64 (gi s.eps 3), .int .i64 (gi s.eps 4), .int .i64 (gi s.eps 5), .int .i64 (gi s.eps 6), .int .i64 (gi s.eps 7), .int .i64 s.lost] 54 (0, 0))), (2, .row WayE 61 (.slice Aw (wy s.ways).length cw) (wy s.ways) okw)] (sub_cons (sub_cons (sub_nil _) 2 rfl) 1 rfl)) (rdin_cons (fun k h => h.elim) (rdin_cons (fun k h => .inr (.inl ⟨2, _, rfl, h⟩)) rdin_nil))⟩
 ·have hc11 := hb11; try simp only [bL] at hc11
  refine lgs F hb11 rfl (x_move (F.t 1 rfl)) fun a F => ?_
  refine lgs F hb11 rfl (x_geq (F.t 12 rfl) rfl) fun a F => ?_
  refine la F rfl (x_pickF (F.t 11 rfl) hb11 (F.t 13 rfl)) fun a F => ?_
  refine wn (hK3 _ _ ?_)
  refine wp_cond_split (F.t 14 rfl) (fun hc14 => ?_) (fun hc14 => ?_)
  ·have hk14_1 := hc14; try simp only [bL] at hc14
   have hno := rest_no (s := s) (in8_big hc14)
   refine sr fun khK5 hK5 => ?_
   refine la F rfl (x_assign rfl) fun a F => ?_
   refine wn (hK5 _ _ ?_)
   refine wp_ret ?_
   try simp only [Exit.then, Exit.inBlock]
   have hE_ := hno.1
   have hM_ := hno.2.1
   refine fin_ret F (res1 F rfl rfl) ⟨Asn.all [(1, .blk bb (.cells #[.slice Aw (wy s.ways).length cw, .int .i64 (gi s.eps 0), .int .i64 (gi s.eps 1), .int .i64 (gi s.eps 2), .int .i64 (gi s.eps 3), .int .i64 (gi s.eps 4), .int .i64 (gi s.eps 5), .int .i64 (gi s.eps 6), .int .i64 (gi s.eps 7), .int .i64 s.lost] 54 (0, 0))), (2, .row WayE 61 (.slice Aw (wy s.ways).length cw) (wy s.ways) okw)], by rw [hE_] <;> rfl, by rw [hM_]; exact ⟨_, _, _, rfl⟩, grew_of (H.sub [(1, .blk bb (.cells #[.slice Aw (wy s.ways).length cw, .int .i64 (gi s.eps 0), .int .i64 (gi s.eps 1), .int .i64 (gi s.eps 2), .int .i64 (gi s.eps 3), .int .i64 (gi s.eps 4), .int .i64 (gi s.eps 5), .int .i64 (gi s.eps 6), .int .i64 (gi s.eps 7), .int .i64 s.lost] 54 (0, 0))), (2, .row WayE 61 (.slice Aw (wy s.ways).length cw) (wy s.ways) okw)] (sub_cons (sub_cons (sub_nil _) 2 rfl) 1 rfl)) (rdin_cons (fun k h => h.elim) (rdin_cons (fun k h => .inr (.inl ⟨2, _, rfl, h⟩)) rdin_nil))⟩
  ·have hk14_2 := hc14; try simp only [bL] at hc14
   have hyes := rest_yes (s := s) (in8_yes hc11 hc14)
   refine wp_skip ?_
   refine hK2 _ _ ?_
   refine wp_seq_k fun khK6 hK6 => ?_
   have hJr3 : ∀ a w, Fr 25 a [] → Hp (OwnL [(1, .blk bb (.cells #[.slice Aw (wy s.ways).length cw, .int .i64 (gi s.eps 0), .int .i64 (gi s.eps 1), .int .i64 (gi s.eps 2), .int .i64 (gi s.eps 3), .int .i64 (gi s.eps 4), .int .i64 (gi s.eps 5), .int .i64 (gi s.eps 6), .int .i64 (gi s.eps 7), .int .i64 s.lost] 54 (0, 0))), (2, .row WayE 61 (.slice Aw (wy s.ways).length cw) (wy s.ways) okw)]) w0 w [(1, .blk bb (.cells #[.slice Aw (wy s.ways).length cw, .int .i64 (gi (s.eps.set n.toNat (w64I (gi s.eps n + 1))) 0), .int .i64 (gi (s.eps.set n.toNat (w64I (gi s.eps n + 1))) 1), .int .i64 (gi (s.eps.set n.toNat (w64I (gi s.eps n + 1))) 2), .int .i64 (gi (s.eps.set n.toNat (w64I (gi s.eps n + 1))) 3), .int .i64 (gi (s.eps.set n.toNat (w64I (gi s.eps n + 1))) 4), .int .i64 (gi (s.eps.set n.toNat (w64I (gi s.eps n + 1))) 5), .int .i64 (gi (s.eps.set n.toNat (w64I (gi s.eps n + 1))) 6), .int .i64 (gi (s.eps.set n.toNat (w64I (gi s.eps n + 1))) 7), .int .i64 s.lost] 54 (0, 0))), (2, .row WayE 61 (.slice Aw (wy s.ways).length cw) (wy s.ways) okw)] → khK6 a w := by
    intro a w  F H
    refine hK6 a w ?_
    refine sr fun khK7 hK7 => ?_
    refine la F rfl (x_assign rfl) fun a F => ?_
    refine wn (hK7 _ _ ?_)
    refine wp_ret ?_
    try simp only [Exit.then, Exit.inBlock]
    have hE_ := hyes.1
    have hM_ := hyes.2.1
    refine fin_ret F (res1 F rfl rfl) ⟨Asn.all [(1, .blk bb (.cells #[.slice Aw (wy s.ways).length cw, .int .i64 (gi (s.eps.set n.toNat (w64I (gi s.eps n + 1))) 0), .int .i64 (gi (s.eps.set n.toNat (w64I (gi s.eps n + 1))) 1), .int .i64 (gi (s.eps.set n.toNat (w64I (gi s.eps n + 1))) 2), .int .i64 (gi (s.eps.set n.toNat (w64I (gi s.eps n + 1))) 3), .int .i64 (gi (s.eps.set n.toNat (w64I (gi s.eps n + 1))) 4), .int .i64 (gi (s.eps.set n.toNat (w64I (gi s.eps n + 1))) 5), .int .i64 (gi (s.eps.set n.toNat (w64I (gi s.eps n + 1))) 6), .int .i64 (gi (s.eps.set n.toNat (w64I (gi s.eps n + 1))) 7), .int .i64 s.lost] 54 (0, 0))), (2, .row WayE 61 (.slice Aw (wy s.ways).length cw) (wy s.ways) okw)], by rw [hE_] <;> rfl, by rw [hM_]; exact ⟨_, _, _, rfl⟩, grew_of (H.sub [(1, .blk bb (.cells #[.slice Aw (wy s.ways).length cw, .int .i64 (gi (s.eps.set n.toNat (w64I (gi s.eps n + 1))) 0), .int .i64 (gi (s.eps.set n.toNat (w64I (gi s.eps n + 1))) 1), .int .i64 (gi (s.eps.set n.toNat (w64I (gi s.eps n + 1))) 2), .int .i64 (gi (s.eps.set n.toNat (w64I (gi s.eps n + 1))) 3), .int .i64 (gi (s.eps.set n.toNat (w64I (gi s.eps n + 1))) 4), .int .i64 (gi (s.eps.set n.toNat (w64I (gi s.eps n + 1))) 5), .int .i64 (gi (s.eps.set n.toNat (w64I (gi s.eps n + 1))) 6), .int .i64 (gi (s.eps.set n.toNat (w64I (gi s.eps n + 1))) 7), .int .i64 s.lost] 54 (0, 0))), (2, .row WayE 61 (.slice Aw (wy s.ways).length cw) (wy s.ways) okw)] (sub_cons (sub_cons (sub_nil _) 2 rfl) 1 rfl)) (rdin_cons (fun k h => h.elim) (rdin_cons (fun k h => .inr (.inl ⟨2, _, rfl, h⟩)) rdin_nil))⟩
   refine r_start [] (by kernel_rfl) H fun H => ?_
   have hS : SL [] _ := SL.of H (sub_nil _)
   refine rT 0 F rfl (by kernel_rfl) pq rfl hS (fun w hS => x_move (F.t 0 rfl)) rfl fun a F => ?_
   refine rT 1 F rfl (by kernel_rfl) pq rfl hS (fun w hS => x_move (F.t 1 rfl)) rfl fun a F => ?_
   refine rT 2 F rfl (by kernel_rfl) pq rfl hS (fun w hS => x_nil (F.t 15 rfl)) rfl fun a F => ?_
   refine rT 3 F rfl (by kernel_rfl) pq rfl hS (fun w hS => x_faddr Tryz.underlying54 rfl ty27 (by decide) (F.t 17 rfl) rfl) rfl fun a F => ?_
   refine rT 4 F rfl (by kernel_rfl) pq rfl hS (fun w hS => x_iaddr_arr Tryz.underlying27 ty3 (F.t 18 rfl) (F.t 16 rfl) (by omega) (by omega)) rfl fun a F => ?_
   refine rT 7 F rfl (by kernel_rfl) pq rfl hS (fun w hS => x_nil (F.t 15 rfl)) rfl fun a F => ?_
   refine rT 8 F rfl (by kernel_rfl) pq rfl hS (fun w hS => x_faddr Tryz.underlying54 rfl ty27 (by decide) (F.t 22 rfl) rfl) rfl fun a F => ?_
   refine r_do 5 rfl (by kernel_rfl) rfl rfl ?_
   refine w_at F (x_load1 ty3 (F.t 19 rfl) (blk_cell (H.at 1 rfl) _ (eps_at (by omega) (by omega)))) rfl rfl ?_
   clear F; intro a F
   refine aN (SL.of H (sub_nil _)) fun hS => ?_
   refine rT 6 F rfl (by kernel_rfl) pq rfl hS (fun w hS => x_add (F.t 20 rfl) rfl rfl) rfl fun a F => ?_
   refine rT 9 F rfl (by kernel_rfl) pq rfl hS (fun w hS => x_iaddr_arr Tryz.underlying27 ty3 (F.t 23 rfl) (F.t 16 rfl) (by omega) (by omega)) rfl fun a F => ?_
   refine r_do 10 rfl (by kernel_rfl) rfl rfl ?_
   refine w_store 1 H ty3 rfl (F.t 24 rfl) (F.t 21 rfl) rfl (one1 rfl rfl) (by show 1 + n.toNat * 1 + 1 ≤ 10; omega) ?_
   clear H; intro w H
   refine aN (SL.of H (sub_nil _)) fun hS => ?_
   have H : Hp _ w0 w ((1, .blk bb (.cells (spl #[.slice Aw (wy s.ways).length cw, .int .i64 (gi s.eps 0), .int .i64 (gi s.eps 1), .int .i64 (gi s.eps 2), .int .i64 (gi s.eps 3), .int .i64 (gi s.eps 4), .int .i64 (gi s.eps 5), .int .i64 (gi s.eps 6), .int .i64 (gi s.eps 7), .int .i64 s.lost] (1 + n.toNat * 1) (Value.int .i64 (w64I (gi s.eps n + 1))).cells) 54 (0, 0))) :: _) := H
   rw [eps_set hs.eps (by omega) (by omega)] at H
   refine r_end (by kernel_rfl) ?_; clear hS
   exact hJr3 _ _  F.bare (H.sub _ (sub_cons (sub_cons (sub_nil _) 2 rfl) 1 rfl))
theorem look_calls (w0 : World) (hL : LibAt true w0) {X : Asn} {bb : Nat} {s : BagS} (hX : BagA 54 61 bb s X) (hok : X.ok w0) (hs : BagOk s) (i : Int) : Calls Tryz.prog 19 #[.pointer (some ⟨bb, 0, none⟩), .int .i64 i] w0 fun e w' => ∃ (An : Option Addr) (cn : Nat) (Ac : Option Addr) (cc : Nat) (okm : Nat → Prop), e = .returned (.tuple #[.agg #[.int .i64 (lookM s i).kind, .int .i64 (lookM s i).src, .int .i64 (lookM s i).dst, .int .i64 (lookM s i).tx, .slice An (lookM s i).nodes.length cn, .slice Ac (lookM s i).changes.length cc], .int .i64 (lookE s i)]) ∧ Mods (fun _ => False) w0 w' ∧ (Rd (.int .i64) w' okm An (lookM s i).nodes cn ∧ Rd ChgE w' okm Ac (lookM s i).changes cc) ∧ (∀ k, okm k → w0.heap.size ≤ k ∧ k < w'.heap.size) := by
 obtain ⟨Aw, cw, okw, rfl⟩ := hX
 refine cow Tryz.func19 rfl Tryz.ntmps19 (Nat.le_of_ble_eq_true rfl) fun a F => ?_
 have H := two_ro hok.holds
 have hfew := hs.few
 have hwl := wy_len s.ways
 have H := H.addro 3 (.rd_ WayE Aw (wy s.ways) cw (fun k => (Asn.row WayE 61 (.slice Aw (wy s.ways).length cw) (wy s.ways) okw).own k ∨ (Asn.row WayE 61 (.slice Aw (wy s.ways).length cw) (wy s.ways) okw).rd k)) (fun _ h => h) (row_ro (H.holds 2 _ rfl)) (fun k hk => ⟨2, _, rfl, hk⟩)
 have H := H.lib 990 hL (fun j Y hY k hk hk2 => by rcases Sx.get_one hY with ⟨_, rfl⟩ | ⟨_, h⟩; exact hk; rcases Sx.get_one h with ⟨_, rfl⟩ | ⟨_, h⟩; exact hk; rcases Sx.get_one h with ⟨_, rfl⟩ | ⟨_, h⟩; exact hk; simp [Sx.get] at h)
 refine sr fun khK1 hK1 => ?_
 refine lp rfl ?_
 refine w_alloc 4 F H rfl ty34 ?_
 clear F H; intro a w b4 F H
 refine la F rfl (x_assign rfl) fun a F => ?_
 refine wn (hK1 _ _ ?_)
 refine wp_seq_k fun khK2 hK2 => ?_
 refine sr fun khK3 hK3 => ?_
 refine la F rfl (x_move (F.t 0 rfl)) fun a F => ?_
 refine la F rfl (x_ptrnil Tryz.underlying23 (F.t 6 rfl) rfl) fun a F => ?_
 refine la F rfl (x_move (F.t 7 rfl)) fun a F => ?_
 refine lg F rfl (x_move (F.t 1 rfl)) fun a F => ?_
 refine lg F rfl (x_lss (F.t 9 rfl) rfl) fun a F => ?_
 refine la F rfl (x_pickF (F.t 8 rfl) rfl (F.t 10 rfl)) fun a F => ?_
 refine la F rfl (x_move (F.t 11 rfl)) fun a F => ?_
 refine split_bool F 12 rfl (fun hb12 => ?_) (fun hb12 => ?_)
 ·have hc12 := hb12; try simp only [bL] at hc12
  have hno := look_no (s := s) (isW_neg hc12)
  refine los F hb12 rfl fun a F => ?_
  refine los F hb12 rfl fun a F => ?_
  refine los F hb12 rfl fun a F => ?_
  refine los F hb12 rfl fun a F => ?_
  refine los F hb12 rfl fun a F => ?_
  refine los F hb12 rfl fun a F => ?_
  refine los F hb12 rfl fun a F => ?_
  refine la F rfl (x_pickT (F.t 12 rfl) hb12 rfl) fun a F => ?_
  refine wn (hK3 _ _ ?_)
  refine wp_cond_true (F.t 20 rfl) ?_
  refine sr fun khK4 hK4 => ?_
  refine la F rfl (x_buildS (cells := #[.int .i64 0, .int .i64 0, .int .i64 0, .int .i64 0, .slice none 0 0, .slice none 0 0]) (places := #[(0, 1), (1, 1), (2, 1), (3, 1), (4, 1), (5, 1)]) Tryz.underlying34 ty34 (by kernel_rfl) Array.map_empty rfl) fun a F => ?_
  refine lp rfl ?_
  refine w_storeA 4 H ty34 rfl (F.t 4 rfl) (F.t 21 rfl) rfl (by simp [Value.cells, Value.oneCell']) rfl ?_
  clear H; intro w H
  refine la F rfl (x_assign rfl) fun a F => ?_
  refine wn (hK4 _ _ ?_)
  refine wp_ret ?_
  try simp only [Exit.then, Exit.inBlock]
  exact fin_ret F (resct F rfl rfl rfl (H.at 4 rfl) ty34 rfl) ⟨none, 0, none, 0, (fun _ => False), by rw [hno.1, hno.2.1] <;> rfl, H.mods, by rw [hno.1]; exact ⟨Rd.nil _ _ _, Rd.nil _ _ _⟩, (fun k h => h.elim)⟩
 ·have hc12 := hb12; try simp only [bL] at hc12
  refine lgs F hb12 rfl (x_move (F.t 1 rfl)) fun a F => ?_
  refine lgs F hb12 rfl (x_move (F.t 0 rfl)) fun a F => ?_
  refine lgs F hb12 rfl (x_nil (F.t 14 rfl)) fun a F => ?_
  refine lgs F hb12 rfl (x_faddr Tryz.underlying54 rfl ty52 (by decide) (F.t 15 rfl) rfl) fun a F => ?_
  refine lgs F hb12 rfl (x_load1 ty52 (F.t 16 rfl) (blk_cell (H.atro 1 rfl) 0 rfl)) fun a F => ?_
  refine lgs F hb12 rfl (x_len_slice Tryz.underlying52 (F.t 17 rfl)) fun a F => ?_
  refine lgs F hb12 rfl (x_geq (F.t 13 rfl) (F.t 18 rfl)) fun a F => ?_
  refine la F rfl (x_pickF (F.t 12 rfl) hb12 (F.t 19 rfl)) fun a F => ?_
  refine wn (hK3 _ _ ?_)
  refine wp_cond_split (F.t 20 rfl) (fun hc20 => ?_) (fun hc20 => ?_)
  ·have hk20_1 := hc20; try simp only [bL] at hc20
   have hno := look_no (s := s) (isW_big (s := s) (i := i) (by omega))
   refine sr fun khK5 hK5 => ?_
   refine la F rfl (x_buildS (cells := #[.int .i64 0, .int .i64 0, .int .i64 0, .int .i64 0, .slice none 0 0, .slice none 0 0]) (places := #[(0, 1), (1, 1), (2, 1), (3, 1), (4, 1), (5, 1)]) Tryz.underlying34 ty34 (by kernel_rfl) Array.map_empty rfl) fun a F => ?_
   refine lp rfl ?_
   refine w_storeA 4 H ty34 rfl (F.t 4 rfl) (F.t 21 rfl) rfl (by simp [Value.cells, Value.oneCell']) rfl ?_
   clear H; intro w H
   refine la F rfl (x_assign rfl) fun a F => ?_
   refine wn (hK5 _ _ ?_)
   refine wp_ret ?_
   try simp only [Exit.then, Exit.inBlock]
   exact fin_ret F (resct F rfl rfl rfl (H.at 4 rfl) ty34 rfl) ⟨none, 0, none, 0, (fun _ => False), by rw [hno.1, hno.2.1] <;> rfl, H.mods, by rw [hno.1]; exact ⟨Rd.nil _ _ _, Rd.nil _ _ _⟩, (fun k h => h.elim)⟩
  ·have hk20_2 := hc20; try simp only [bL] at hc20
   refine wp_skip ?_
   refine hK2 _ _ ?_
   refine sr fun khK6 hK6 => ?_
   refine la F rfl (x_move (F.t 0 rfl)) fun a F => ?_
   refine la F rfl (x_nil (F.t 22 rfl)) fun a F => ?_
   refine la F rfl (x_faddr Tryz.underlying54 rfl ty52 (by decide) (F.t 23 rfl) rfl) fun a F => ?_
   refine la F rfl (x_load1 ty52 (F.t 24 rfl) (blk_cell (H.atro 1 rfl) 0 rfl)) fun a F => ?_
   refine la F rfl (x_move (F.t 1 rfl)) fun a F => ?_
   have hyes := isW_yes (s := s) (i := i) (by omega) (by omega)
   obtain ⟨fA1, fc1, hfr1, hf1_0, hf1_1, hfw1⟩ := rd_way ((H.rd 3 rfl)) (gway_some (xs := (wy s.ways)) (i := i) (by omega) (by omega))
   have H := H.subrd 3 rfl 1000 hfr1 (fun _ h => h)
   have H := H.subcels 3 rfl 1499 hfw1 (Rd.inok ((H.rd 3 rfl)) (by omega) _)
   have H := H.subcel 3 rfl 1500 hf1_0 (Rd.inok ((H.rd 3 rfl)) (by omega) _)
   have H := H.subcel 3 rfl 1501 hf1_1 (Rd.inok ((H.rd 3 rfl)) (by omega) _)
   refine la F rfl (x_iaddr_A Tryz.underlying52 ty61 ((H.rd 3 rfl)) (F.t 25 rfl) (F.t 26 rfl) (by omega) (by omega) _) fun a F => ?_
   refine la F rfl (x_faddrA ((H.rd 3 rfl)) (by omega) _ Tryz.underlying61 rfl ty56 (by decide) (F.t 27 rfl) rfl) fun a F => ?_
   refine la F rfl (x_load1 ty56 (F.t 28 rfl) (H.holds 1500 _ rfl)) fun a F => ?_
   have hsz_ := H.mods.size
   refine lp rfl ?_
   refine w_call F (x_enter Tryz.func31 (by kernel_rfl) rfl (by simp only [bM, F.t 29 rfl] <;> rfl)) (decM_calls (bs := (gway (wy s.ways) i).b) _ (H.holds 990 _ rfl) ((H.rd 1000 rfl)) (by rw [gway_wy hyes]; exact encM_byte (hs.all _ (idW_mem hyes).1).2)) rfl rfl ?_
   rintro _ w ⟨z, An, cn, Ac, cc, okm, g, rfl, hm_, h1_, h2_, hf_, hD⟩; refine ⟨_, rfl, ?_⟩; clear F; intro a F; have h3_ := (H.same hm_).rdNew 70 (fun i A' hA k hk => H.inb i A' hA k (.inl hk)) h1_ hf_; have H := (h3_.1.rdNew 71 h3_.2 h2_ hf_).1; have hf3_ : ∀ k, okm k → w0.heap.size ≤ k := fun k h => Nat.le_trans hsz_ (hf_ k h).1
   refine la F rfl (x_extract (F.t 30 rfl) rfl) fun a F => ?_
   refine la F rfl (x_extract (F.t 30 rfl) rfl) fun a F => ?_
   refine lp rfl ?_
   refine w_storeA 4 H ty34 rfl (F.t 4 rfl) (F.t 31 rfl) rfl (by simp [Value.cells, Value.oneCell']) rfl ?_
   clear H; intro w H
   refine la F rfl (x_assign (F.t 32 rfl)) fun a F => ?_
   refine wn (hK6 _ _ ?_)
   refine wp_ret ?_
   try simp only [Exit.then, Exit.inBlock]
   rw [gway_wy hyes] at hD
   obtain ⟨hg, hz⟩ := hD.of (hs.all _ (idW_mem hyes).1).1 (hs.all _ (idW_mem hyes).1).2 rfl
   have hy1 := (look_yes hyes).1
   have hy2 := (look_yes hyes).2.1
   subst hz
   exact fin_ret F (resct F rfl rfl rfl (H.at 4 rfl) ty34 rfl) ⟨An, cn, Ac, cc, okm, by rw [hy1, hy2, hg] <;> rfl, H.mods, by rw [hy1]; exact ⟨H.rd 70 rfl, H.rd 71 rfl⟩, (fun k h => ⟨hf3_ k h, H.inb 70 _ rfl k (.inr h)⟩)⟩
theorem send_calls (w0 : World) (hL : LibAt true w0) {X : Asn} {bb : Nat} {s : BagS} (hX : BagA 54 61 bb s X) (hok : X.ok w0) (hs : BagOk s) (hLX : ∀ k, (Asn.lib true).rd k → ¬ X.own k) {m : MessageD} {okm0 : Nat → Prop} {Am0 : Option Addr} {cm0 : Nat} (hrm0 : Rd (Rep.int .i64) w0 okm0 Am0 m.nodes cm0) {okm1 : Nat → Prop} {Am1 : Option Addr} {cm1 : Nat} (hrm1 : Rd ChgE w0 okm1 Am1 m.changes cm1) (hb : MessageB m) (hin0 : ∀ k, okm0 k → k < w0.heap.size) (hin1 : ∀ k, okm1 k → k < w0.heap.size) (hap0 : ∀ k, okm0 k → ¬ X.own k) (hap1 : ∀ k, okm1 k → ¬ X.own k) : Calls Tryz.prog 6 #[.pointer (some ⟨bb, 0, none⟩), .agg #[.int .i64 m.kind, .int .i64 m.src, .int .i64 m.dst, .int .i64 m.tx, .slice Am0 m.nodes.length cm0, .slice Am1 m.changes.length cm1]] w0 fun e w' => ∃ X', e = .returned (.int .i64 (sendE s m)) ∧ BagA 54 61 bb (sendS s m) X' ∧ Grew (fun _ => False) (fun _ => False) X w0 w' X' := by
 refine cow Tryz.func6 rfl Tryz.ntmps6 (Nat.le_of_ble_eq_true rfl) fun a F => ?_
 have H := Hp.own1 hok 100
 have hfew := hs.few
 have H := H.readable 910 hrm0 hin0 (fun j Y hY k hk hk2 => by rcases Sx.get_one hY with ⟨_, rfl⟩ | ⟨_, h⟩; exact hap0 k hk2 hk; simp [Sx.get] at h)
 have H := H.readable 911 hrm1 hin1 (fun j Y hY k hk hk2 => by rcases Sx.get_one hY with ⟨_, rfl⟩ | ⟨_, h⟩; exact hk; rcases Sx.get_one h with ⟨_, rfl⟩ | ⟨_, h⟩; exact hap1 k hk2 hk; simp [Sx.get] at h)
 have hlem0 := hrm0.le; unfold maxLen at hlem0
 have hlem1 := hrm1.le; unfold maxLen at hlem1
 have H := H.lib 990 hL (fun j Y hY k hk hk2 => by rcases Sx.get_one hY with ⟨_, rfl⟩ | ⟨_, h⟩; exact hk; rcases Sx.get_one h with ⟨_, rfl⟩ | ⟨_, h⟩; exact hk; rcases Sx.get_one h with ⟨_, rfl⟩ | ⟨_, h⟩; exact hLX k hk2 hk; simp [Sx.get] at h)
 obtain ⟨Aw, cw, hV⟩ := hX.row
 refine sr fun khK1 hK1 => ?_
 refine lp rfl ?_
 refine w_box 3 F H rfl (F.t 1 rfl) ?_
 clear F H; intro a w b3 F H
 refine la F rfl (x_assign rfl) fun a F => ?_
 refine wn (hK1 _ _ ?_)
 refine wp_seq_k fun khK2 hK2 => ?_
 refine sr fun khK3 hK3 => ?_
 refine la F rfl (x_move (F.t 0 rfl)) fun a F => ?_
 refine la F rfl (x_ptrnil Tryz.underlying23 (F.t 7 rfl) rfl) fun a F => ?_
 refine wn (hK3 _ _ ?_)
 refine wp_cond_false (F.t 8 rfl) ?_
 refine wp_skip ?_
 refine hK2 _ _ ?_
 refine sr fun khK4 hK4 => ?_
 refine la F rfl (x_loadn ty34 (F.t 3 rfl) rfl (blk_whole (H.at 3 rfl))) fun a F => ?_
 have hsz_ := H.mods.size
 refine lp rfl ?_
 refine w_call F (x_enter Tryz.func23 (by kernel_rfl) rfl (by simp only [bM, F.t 10 rfl] <;> rfl)) (encM_calls (m := m) _ (H.holds 990 _ rfl) ((H.rd 910 rfl)) ((H.rd 911 rfl)) hb) rfl rfl ?_
 rintro _ w ⟨vr78, rfl, hm_, hr_⟩; refine ⟨_, rfl, ?_⟩; clear F; intro a F; have H := Hp.rowOut H 78 hm_ hr_; obtain ⟨Ar78, cr78, rfl⟩ := (H.row 78 rfl).form; have hnw78 : ∀ k, (Value.slice Ar78 (encM m).length cr78).ownBlock = some k → w0.heap.size ≤ k := fun k h => Nat.le_trans hsz_ (hr_.2 k h)
 refine la F rfl (x_move (F.t 11 rfl)) fun a F => ?_
 refine la F rfl (x_extract (F.t 9 rfl) rfl) fun a F => ?_
 refine la F rfl (x_extract (F.t 9 rfl) rfl) fun a F => ?_
 refine la F rfl (x_assign (F.t 12 rfl)) fun a F => ?_
 refine la F rfl (x_assign (F.t 13 rfl)) fun a F => ?_
 refine wn (hK4 _ _ ?_)
 refine wp_seq_k fun khK5 hK5 => ?_
 refine sr fun khK6 hK6 => ?_
 refine la F rfl (x_move (F.t 6 rfl)) fun a F => ?_
 refine la F rfl (x_neq (F.t 14 rfl) rfl) fun a F => ?_
 refine wn (hK6 _ _ ?_)
 refine wp_cond_split (F.t 15 rfl) (fun hc15 => ?_) (fun hc15 => ?_)
 ·have hk15_1 := hc15; try simp only [bL] at hc15
  have hr0 := encME_ne (m := m) hc15
  refine sr fun khK7 hK7 => ?_
  refine la F rfl (x_move (F.t 6 rfl)) fun a F => ?_
  refine la F rfl (x_assign (F.t 16 rfl)) fun a F => ?_
  refine wn (hK7 _ _ ?_)
  refine wp_ret ?_
  try simp only [Exit.then, Exit.inBlock]
  exact fin_ret F (res1 F rfl rfl) ⟨X, by rw [(send_no hr0).1, ← encME_no hr0] <;> rfl, by rw [(send_no hr0).2]; exact hX, grew_lab H 100 rfl (fun k hk => .inr (.inl hk))⟩
 ·have hk15_2 := hc15; try simp only [bL] at hc15
  have hr := encME0 (m := m) hc15
  have H := H.freeze 78 rfl (fun kb => (Value.slice Ar78 (encM m).length cr78).ownBlock = some kb) (fun kb => ⟨fun h => .inr h, fun h => h.resolve_left id⟩)
  refine wp_skip ?_
  refine hK5 _ _ ?_
  refine wp_seq_k fun khK8 hK8 => ?_
  refine r_start [(3, .blk b3 (.cells #[.int .i64 m.kind, .int .i64 m.src, .int .i64 m.dst, .int .i64 m.tx, .slice Am0 m.nodes.length cm0, .slice Am1 m.changes.length cm1] 34 (0, 0)))] (by kernel_rfl) H fun H => ?_
  have hS : SL [(3, .blk b3 (.cells #[.int .i64 m.kind, .int .i64 m.src, .int .i64 m.dst, .int .i64 m.tx, .slice Am0 m.nodes.length cm0, .slice Am1 m.changes.length cm1] 34 (0, 0)))] _ := SL.of H (sub_cons (sub_nil _) 3 rfl)
  refine rT 0 F rfl (by kernel_rfl) pq rfl hS (fun w hS => x_move (F.t 0 rfl)) rfl fun a F => ?_
  refine rT 1 F rfl (by kernel_rfl) pq rfl hS (fun w hS => x_move (F.t 5 rfl)) rfl fun a F => ?_
  refine rT 2 F rfl (by kernel_rfl) pq rfl hS (fun w hS => x_move (F.t 0 rfl)) rfl fun a F => ?_
  refine rT 3 F rfl (by kernel_rfl) pq rfl hS (fun w hS => x_faddr Tryz.underlying34 rfl ty3 (by decide) (F.t 3 rfl) rfl) rfl fun a F => ?_
  refine rT 4 F rfl (by kernel_rfl) pq rfl hS (fun w hS => x_load1 ty3 (F.t 20 rfl) (blk_cell (SL.at_ hS 3 rfl) 2 rfl)) rfl fun a F => ?_
  refine rT 5 F rfl (by kernel_rfl) pq rfl hS (fun w hS => x_nil (F.t 19 rfl)) rfl fun a F => ?_
  refine rT 6 F rfl (by kernel_rfl) pq rfl hS (fun w hS => x_faddr Tryz.underlying54 rfl ty27 (by decide) (F.t 22 rfl) rfl) rfl fun a F => ?_
  refine rT 7 F rfl (by kernel_rfl) pq rfl hS (fun w hS => x_iaddr_arr Tryz.underlying27 ty3 (F.t 23 rfl) (F.t 21 rfl) (by have := (rightM_parts hr).dst; omega) (by have := (rightM_parts hr).dst; show _ < (8 : Int); omega)) rfl fun a F => ?_
  refine r_do 8 rfl (by kernel_rfl) rfl rfl ?_
  refine w_at F (x_load1 ty3 (F.t 24 rfl) ((hV _ (H.holds 100 _ rfl)).2.2.1 m.dst (by have := (rightM_parts hr).dst; omega) (by have := (rightM_parts hr).dst; omega))) rfl rfl ?_
  clear F; intro a F
  refine aN (SL.of H (sub_cons (sub_nil _) 3 rfl)) fun hS => ?_
  refine rT 9 F rfl (by kernel_rfl) pq rfl hS (fun w hS => x_buildS (cells := #[.slice Ar78 (encM m).length cr78, .int .i64 (gi s.eps m.dst)]) (places := #[(0, 1), (1, 1)]) Tryz.underlying61 ty61 (by kernel_rfl) (by simp only [bM, F.t 18 rfl, F.t 25 rfl] <;> rfl) rfl) rfl fun a F => ?_
  have hsz2_ := H.mods.size
  refine r_do 10 rfl (by kernel_rfl) rfl rfl ?_
  refine w_call F (x_enter Tryz.func24 (by kernel_rfl) rfl (by simp only [bM, F.t 17 rfl, F.t 26 rfl] <;> rfl)) (put_calls (p := (m, gi s.eps m.dst)) _ hX (H.okX 100 rfl) hs ((H.rd 78 rfl)) (fun k h => H.inb 78 _ rfl k (.inr h)) (fun k h hx => H.sep 100 78 _ _ (by decide) rfl rfl k hx (.inr h))) rfl rfl ?_
  rintro _ w ⟨X2, rfl, hX2, hg_⟩; refine ⟨_, rfl, ?_⟩; clear F; intro a F; have H := H.grew 100 rfl hg_ (fun k hk => ⟨78, _, rfl, hk⟩)
  refine aN (SL.of H (sub_cons (sub_nil _) 3 rfl)) fun hS => ?_
  refine rT 11 F rfl (by kernel_rfl) pq rfl hS (fun w hS => x_assign (F.t 27 rfl)) rfl fun a F => ?_
  refine r_end (by kernel_rfl) ?_; clear hS
  refine hK8 _ _ ?_
  refine wp_ret ?_
  try simp only [Exit.then, Exit.inBlock]
  exact fin_ret F (res1 F rfl rfl) ⟨X2, by rw [(send_yes hr).1] <;> rfl, by rw [(send_yes hr).2]; exact hX2, grew_lab H 100 rfl (fun k hk => by rcases hg_.rd k hk with h | h | h | h; exact .inl h; exact .inr (.inl h); exact .inr (.inr (.inr (hnw78 k h))); exact .inr (.inr (.inr (Nat.le_trans hsz2_ h))))⟩
theorem del_callsI (w0 : World) {ok : Nat → Prop} {A : Option Addr} {xs : List WayD} {c : Nat} (hr : Row WayE 61 w0 ok (.slice A xs.length c) xs) (hinb : ∀ k, ok k → k < w0.heap.size) (hslf : ∀ k, (Value.slice A xs.length c).ownBlock = some k → ¬ ok k) {i : Int} (h0 : 0 ≤ i) (hi : i < (xs.length : Int)) : Calls Tryz.prog 27 #[.slice A xs.length c, .int .i64 i, .int .i64 (i + 1)] w0 fun e w' => e = .returned (.slice A (xs.take i.toNat ++ xs.drop (i.toNat + 1)).length c) ∧ Mods (fun k => (Value.slice A xs.length c).ownBlock = some k) w0 w' ∧ Row WayE 61 w' ok (.slice A (xs.take i.toNat ++ xs.drop (i.toNat + 1)).length c) (xs.take i.toNat ++ xs.drop (i.toNat + 1)) := by
 obtain ⟨n, rfl⟩ : ∃ n : Nat, i = (n : Int) := ⟨i.toNat, by omega⟩
 exact del_calls w0 hr hinb hslf (by omega)
theorem take_calls (w0 : World) (hL : LibAt true w0) {X : Asn} {bb : Nat} {s : BagS} (hX : BagA 54 61 bb s X) (hok : X.ok w0) (hs : BagOk s) (hLX : ∀ k, (Asn.lib true).rd k → ¬ X.own k) (i : Int) : Calls Tryz.prog 8 #[.pointer (some ⟨bb, 0, none⟩), .int .i64 i] w0 fun e w' => ∃ (X' : Asn) (An : Option Addr) (cn : Nat) (Ac : Option Addr) (cc : Nat) (okm : Nat → Prop), e = .returned (.tuple #[.agg #[.int .i64 (lookM s i).kind, .int .i64 (lookM s i).src, .int .i64 (lookM s i).dst, .int .i64 (lookM s i).tx, .slice An (lookM s i).nodes.length cn, .slice Ac (lookM s i).changes.length cc], .bool (freshS s i), .int .i64 (lookE s i)]) ∧ BagA 54 61 bb (takeS s i) X' ∧ Grew (fun _ => False) (fun _ => False) X w0 w' X' ∧ (Rd (.int .i64) w' okm An (lookM s i).nodes cn ∧ Rd ChgE w' okm Ac (lookM s i).changes cc) ∧ (∀ k, okm k → w0.heap.size ≤ k ∧ k < w'.heap.size) ∧ ∀ k, X'.own k → ¬ okm k := by
 obtain ⟨Aw, cw, okw, rfl⟩ := hX
 refine cow Tryz.func8 rfl Tryz.ntmps8 (Nat.le_of_ble_eq_true rfl) fun a F => ?_
 have H := Hp.ofAll hok.holds
 have hfew := hs.few
 have hwl := wy_len s.ways
 have H := H.lib 990 hL (fun i A_ hA k hk hk2 => hLX k hk2 (⟨i, A_, hA, hk⟩))
 refine sr fun khK1 hK1 => ?_
 refine lp rfl ?_
 refine w_alloc 4 F H rfl ty34 ?_
 clear F H; intro a w b4 F H
 refine la F rfl (x_assign rfl) fun a F => ?_
 refine la F rfl (x_assign rfl) fun a F => ?_
 refine wn (hK1 _ _ ?_)
 refine sr fun khK2 hK2 => ?_
 refine la F rfl (x_move (F.t 0 rfl)) fun a F => ?_
 refine la F rfl (x_move (F.t 1 rfl)) fun a F => ?_
 have hsz_ := H.mods.size
 refine lp rfl ?_
 refine w_call F (x_enter Tryz.func19 (by kernel_rfl) rfl (by simp only [bM, F.t 11 rfl, F.t 12 rfl] <;> rfl)) (look_calls _ (H.holds 990 _ rfl) ⟨_, _, _, rfl⟩ (H.sub [(1, .blk bb (.cells #[.slice Aw (wy s.ways).length cw, .int .i64 (gi s.eps 0), .int .i64 (gi s.eps 1), .int .i64 (gi s.eps 2), .int .i64 (gi s.eps 3), .int .i64 (gi s.eps 4), .int .i64 (gi s.eps 5), .int .i64 (gi s.eps 6), .int .i64 (gi s.eps 7), .int .i64 s.lost] 54 (0, 0))), (2, .row WayE 61 (.slice Aw (wy s.ways).length cw) (wy s.ways) okw)] (sub_cons (sub_cons (sub_nil _) 2 rfl) 1 rfl)).okAll hs i) rfl rfl ?_
 rintro _ w ⟨An70, cn70, Ac70, cc70, okm70, rfl, hm_, ⟨h1_, h2_⟩, hf_⟩; refine ⟨_, rfl, ?_⟩; clear F; intro a F; have h3_ := (H.same hm_).rdNew 70 (fun i A' hA k hk => H.inb i A' hA k (.inl hk)) h1_ hf_; have H := (h3_.1.rdNew 71 h3_.2 h2_ hf_).1; have hfz_ : ∀ k, okm70 k → w0.heap.size ≤ k := fun k h => Nat.le_trans hsz_ (hf_ k h).1
 refine la F rfl (x_move (F.t 13 rfl)) fun a F => ?_
 refine la F rfl (x_extract (F.t 10 rfl) rfl) fun a F => ?_
 refine la F rfl (x_extract (F.t 10 rfl) rfl) fun a F => ?_
 refine lp rfl ?_
 refine w_alloc 7 F H rfl ty34 ?_
 clear F H; intro a w b7 F H
 refine lp rfl ?_
 refine w_storeA 7 H ty34 rfl (F.t 7 rfl) (F.t 14 rfl) rfl (by simp [Value.cells, Value.oneCell']) rfl ?_
 clear H; intro w H
 refine la F rfl (x_assign (F.t 15 rfl)) fun a F => ?_
 refine wn (hK2 _ _ ?_)
 refine wp_seq_k fun khK3 hK3 => ?_
 refine sr fun khK4 hK4 => ?_
 refine la F rfl (x_move (F.t 8 rfl)) fun a F => ?_
 refine la F rfl (x_neq (F.t 16 rfl) rfl) fun a F => ?_
 refine wn (hK4 _ _ ?_)
 refine wp_cond_split (F.t 17 rfl) (fun hc17 => ?_) (fun hc17 => ?_)
 ·have hk17_1 := hc17; try simp only [bL] at hc17
  refine sr fun khK5 hK5 => ?_
  refine la F rfl (x_loadn ty34 (F.t 7 rfl) rfl (blk_whole (H.at 7 rfl))) fun a F => ?_
  refine la F rfl (x_move (F.t 8 rfl)) fun a F => ?_
  refine lp rfl ?_
  refine w_storeA 4 H ty34 rfl (F.t 4 rfl) (F.t 18 rfl) rfl (by simp [Value.cells, Value.oneCell']) rfl ?_
  clear H; intro w H
  refine la F rfl (x_assign rfl) fun a F => ?_
  refine la F rfl (x_assign (F.t 19 rfl)) fun a F => ?_
  refine wn (hK5 _ _ ?_)
  refine wp_ret ?_
  try simp only [Exit.then, Exit.inBlock]
  have hno := look_no (look_nz hc17)
  have hM_ := hno.2.2.1
  have hF_ := hno.2.2.2.1
  exact fin_ret F (resct3 F rfl rfl rfl rfl (H.at 4 rfl) ty34 rfl) ⟨Asn.all [(1, .blk bb (.cells #[.slice Aw (wy s.ways).length cw, .int .i64 (gi s.eps 0), .int .i64 (gi s.eps 1), .int .i64 (gi s.eps 2), .int .i64 (gi s.eps 3), .int .i64 (gi s.eps 4), .int .i64 (gi s.eps 5), .int .i64 (gi s.eps 6), .int .i64 (gi s.eps 7), .int .i64 s.lost] 54 (0, 0))), (2, .row WayE 61 (.slice Aw (wy s.ways).length cw) (wy s.ways) okw)], An70, cn70, Ac70, cc70, okm70, by rw [hF_] <;> rfl, by rw [hM_]; exact ⟨_, _, _, rfl⟩, grew_of (H.sub [(1, .blk bb (.cells #[.slice Aw (wy s.ways).length cw, .int .i64 (gi s.eps 0), .int .i64 (gi s.eps 1), .int .i64 (gi s.eps 2), .int .i64 (gi s.eps 3), .int .i64 (gi s.eps 4), .int .i64 (gi s.eps 5), .int .i64 (gi s.eps 6), .int .i64 (gi s.eps 7), .int .i64 s.lost] 54 (0, 0))), (2, .row WayE 61 (.slice Aw (wy s.ways).length cw) (wy s.ways) okw)] (sub_cons (sub_cons (sub_nil _) 2 rfl) 1 rfl)) (rdin_cons (fun k h => h.elim) (rdin_cons (fun k h => .inr (.inl ⟨2, _, rfl, h⟩)) rdin_nil)), ⟨H.rd 70 rfl, H.rd 71 rfl⟩, (fun k h => ⟨hfz_ k h, H.inb 70 _ rfl k (.inr h)⟩), (own_cons (fun k hk h => H.sep 1 70 _ _ (by decide) rfl rfl k hk (.inr h)) (own_cons (fun k hk h => H.sep 2 70 _ _ (by decide) rfl rfl k hk (.inr h)) own_nil))⟩
 ·have hk17_2 := hc17; try simp only [bL] at hc17
  have hyes := look_zero hc17
  have hio := isW_parts hyes
  have hyr := look_yes hyes
  have hHw := H.row 2 rfl
  have hrd2 := Row.rd (ok' := fun k => okw k ∨ (.slice Aw (wy s.ways).length cw : Value).ownBlock = some k) hHw (fun _ h _ => .inl h) (fun _ h => .inr h)
  have H := H.bundle (L := [(1, .blk bb (.cells #[.slice Aw (wy s.ways).length cw, .int .i64 (gi s.eps 0), .int .i64 (gi s.eps 1), .int .i64 (gi s.eps 2), .int .i64 (gi s.eps 3), .int .i64 (gi s.eps 4), .int .i64 (gi s.eps 5), .int .i64 (gi s.eps 6), .int .i64 (gi s.eps 7), .int .i64 s.lost] 54 (0, 0))), (2, .row WayE 61 (.slice Aw (wy s.ways).length cw) (wy s.ways) okw)]) (N := [(990, .lib true), (4, .blk b4 (.cells #[.int .i64 0, .int .i64 0, .int .i64 0, .int .i64 0, .slice none 0 0, .slice none 0 0] 34 (0, 0))), (70, .rd_ (.int .i64) An70 ((lookM s i).nodes) cn70 okm70), (71, .rd_ ChgE Ac70 ((lookM s i).changes) cc70 okm70), (7, .blk b7 (.cells #[.int .i64 (lookM s i).kind, .int .i64 (lookM s i).src, .int .i64 (lookM s i).dst, .int .i64 (lookM s i).tx, .slice An70 (lookM s i).nodes.length cn70, .slice Ac70 (lookM s i).changes.length cc70] 34 (0, 0)))]) 100 (sub_cons (sub_cons (sub_nil _) 2 rfl) 1 rfl) (sub_cons (sub_cons (sub_cons (sub_cons (sub_cons (sub_nil _) 7 rfl) 71 rfl) 70 rfl) 4 rfl) 990 rfl) (apart_cons rfl (apart_cons rfl (apart_nil _)))
  have hd0 : 0 ≤ (lookM s i).dst := by rw [hyr.1]; exact (rightM_parts (hs.all _ (idW_mem hyes).1).1).dst.1
  have hd1 : (lookM s i).dst < 8 := by rw [hyr.1]; exact (rightM_parts (hs.all _ (idW_mem hyes).1).1).dst.2
  refine wp_skip ?_
  refine hK3 _ _ ?_
  refine wp_seq_k fun khK6 hK6 => ?_
  refine r_start [(7, .blk b7 (.cells #[.int .i64 (lookM s i).kind, .int .i64 (lookM s i).src, .int .i64 (lookM s i).dst, .int .i64 (lookM s i).tx, .slice An70 (lookM s i).nodes.length cn70, .slice Ac70 (lookM s i).changes.length cc70] 34 (0, 0)))] (by kernel_rfl) H fun H => ?_
  have hS : SL [(7, .blk b7 (.cells #[.int .i64 (lookM s i).kind, .int .i64 (lookM s i).src, .int .i64 (lookM s i).dst, .int .i64 (lookM s i).tx, .slice An70 (lookM s i).nodes.length cn70, .slice Ac70 (lookM s i).changes.length cc70] 34 (0, 0)))] _ := SL.of H (sub_cons (sub_nil _) 7 rfl)
  refine rT 0 F rfl (by kernel_rfl) pq rfl hS (fun w hS => x_move (F.t 0 rfl)) rfl fun a F => ?_
  refine rT 1 F rfl (by kernel_rfl) pq rfl hS (fun w hS => x_nil (F.t 20 rfl)) rfl fun a F => ?_
  refine rT 2 F rfl (by kernel_rfl) pq rfl hS (fun w hS => x_faddr Tryz.underlying54 rfl ty52 (by decide) (F.t 21 rfl) rfl) rfl fun a F => ?_
  refine rT 4 F rfl (by kernel_rfl) pq rfl hS (fun w hS => x_move (F.t 1 rfl)) rfl fun a F => ?_
  refine rT 8 F rfl (by kernel_rfl) pq rfl hS (fun w hS => x_move (F.t 0 rfl)) rfl fun a F => ?_
  refine rT 9 F rfl (by kernel_rfl) pq rfl hS (fun w hS => x_faddr Tryz.underlying34 rfl ty3 (by decide) (F.t 7 rfl) rfl) rfl fun a F => ?_
  refine rT 10 F rfl (by kernel_rfl) pq rfl hS (fun w hS => x_load1 ty3 (F.t 29 rfl) (blk_cell (SL.at_ hS 7 rfl) 2 rfl)) rfl fun a F => ?_
  refine rT 11 F rfl (by kernel_rfl) pq rfl hS (fun w hS => x_nil (F.t 28 rfl)) rfl fun a F => ?_
  refine rT 12 F rfl (by kernel_rfl) pq rfl hS (fun w hS => x_faddr Tryz.underlying54 rfl ty27 (by decide) (F.t 31 rfl) rfl) rfl fun a F => ?_
  refine rT 13 F rfl (by kernel_rfl) pq rfl hS (fun w hS => x_iaddr_arr Tryz.underlying27 ty3 (F.t 32 rfl) (F.t 30 rfl) (by have := hd0; omega) (by have := hd1; show _ < (8 : Int); omega)) rfl fun a F => ?_
  refine r_do2 3 14 rfl rfl (by kernel_rfl) rfl rfl rfl rfl ?_ ?_
  ·
   refine w_at F (x_load1 ty52 (F.t 22 rfl) (blk_cell ((H.holds 100 _ rfl).holds 1 _ rfl) 0 rfl)) rfl rfl ?_
   clear F; intro a F
   refine aN (SL.of H (sub_cons (sub_nil _) 7 rfl)) fun hS => ?_
   refine rT 5 F rfl (by kernel_rfl) pq rfl hS (fun w hS => x_iaddr_A Tryz.underlying52 ty61 (hrd2) (F.t 23 rfl) (F.t 24 rfl) (by omega) (by rw [hwl]; omega) _) rfl fun a F => ?_
   refine rT 6 F rfl (by kernel_rfl) pq rfl hS (fun w hS => x_faddrA (hrd2) (by rw [hwl]; omega) _ Tryz.underlying61 rfl ty3 (by decide) (F.t 25 rfl) rfl) rfl fun a F => ?_
   refine r_do2 7 14 rfl rfl (by kernel_rfl) rfl rfl rfl rfl ?_ ?_
   ·
    refine w_at F (x_load1 ty3 (F.t 26 rfl) (way_cell2 ((H.holds 100 _ rfl).holds 2 _ rfl) hyes)) rfl rfl ?_
    clear F; intro a F
    refine aN (SL.of H (sub_cons (sub_nil _) 7 rfl)) fun hS => ?_
    refine r_do 14 rfl (by kernel_rfl) rfl rfl ?_
    refine w_at F (x_load1 ty3 (F.t 33 rfl) (blk_cell ((H.holds 100 _ rfl).holds 1 _ rfl) _ (eps_at hd0 hd1))) rfl rfl ?_
    clear F; intro a F
    refine aN (SL.of H (sub_cons (sub_nil _) 7 rfl)) fun hS => ?_
    refine rT 15 F rfl (by kernel_rfl) pq rfl hS (fun w hS => x_eql (F.t 27 rfl) (F.t 34 rfl)) rfl fun a F => ?_
    rw [show decide ((idW s i).2 = gi s.eps (lookM s i).dst) = decide ((idW s i).2 = gi s.eps (idW s i).1.dst) by rw [hyr.1]] at F
    refine rT 16 F rfl (by kernel_rfl) pq rfl hS (fun w hS => x_assign (F.t 35 rfl)) rfl fun a F => ?_
    refine r_end (by kernel_rfl) ?_; clear hS
    refine hK6 _ _ ?_
    refine sr fun khK7 hK7 => ?_
    have H := H.unbundle (L := [(1, .blk bb (.cells #[.slice Aw (wy s.ways).length cw, .int .i64 (gi s.eps 0), .int .i64 (gi s.eps 1), .int .i64 (gi s.eps 2), .int .i64 (gi s.eps 3), .int .i64 (gi s.eps 4), .int .i64 (gi s.eps 5), .int .i64 (gi s.eps 6), .int .i64 (gi s.eps 7), .int .i64 s.lost] 54 (0, 0))), (2, .row WayE 61 (.slice Aw (wy s.ways).length cw) (wy s.ways) okw)]) (N := [(990, .lib true), (4, .blk b4 (.cells #[.int .i64 0, .int .i64 0, .int .i64 0, .int .i64 0, .slice none 0 0, .slice none 0 0] 34 (0, 0))), (70, .rd_ (.int .i64) An70 ((lookM s i).nodes) cn70 okm70), (71, .rd_ ChgE Ac70 ((lookM s i).changes) cc70 okm70), (7, .blk b7 (.cells #[.int .i64 (lookM s i).kind, .int .i64 (lookM s i).src, .int .i64 (lookM s i).dst, .int .i64 (lookM s i).tx, .slice An70 (lookM s i).nodes.length cn70, .slice Ac70 (lookM s i).changes.length cc70] 34 (0, 0)))]) 100 rfl (sub_cons (sub_cons (sub_cons (sub_cons (sub_cons (sub_nil _) 7 rfl) 71 rfl) 70 rfl) 4 rfl) 990 rfl) rfl
    refine la F rfl (x_move (F.t 0 rfl)) fun a F => ?_
    refine la F rfl (x_move (F.t 0 rfl)) fun a F => ?_
    refine la F rfl (x_nil (F.t 37 rfl)) fun a F => ?_
    refine la F rfl (x_faddr Tryz.underlying54 rfl ty52 (by decide) (F.t 38 rfl) rfl) fun a F => ?_
    refine la F rfl (x_load1 ty52 (F.t 39 rfl) (blk_cell (H.at 1 rfl) 0 rfl)) fun a F => ?_
    refine la F rfl (x_move (F.t 1 rfl)) fun a F => ?_
    refine la F rfl (x_move (F.t 1 rfl)) fun a F => ?_
    have hfew2 := hs.few
    refine la F rfl (x_add (F.t 42 rfl) rfl (w64 (by omega) (by omega))) fun a F => ?_
    refine lp rfl ?_
    refine w_call F (x_enter Tryz.func27 (by kernel_rfl) rfl (by simp only [bM, F.t 40 rfl, F.t 41 rfl, F.t 43 rfl] <;> rfl)) (del_callsI _ (H.row 2 rfl) (fun k h => H.inb 2 _ rfl k (.inr h)) (fun k h h2 => H.self 2 _ rfl k h h2) hio.1 (by rw [hwl]; exact hio.2)) rfl rfl ?_
    rintro _ w ⟨rfl, hm_, hr_⟩; refine ⟨_, rfl, ?_⟩; clear F; intro a F; have H := H.rowSame 2 rfl hm_ hr_ (by cases Aw <;> rfl)
    refine la F rfl (x_nil (F.t 36 rfl)) fun a F => ?_
    refine la F rfl (x_faddr Tryz.underlying54 rfl ty52 (by decide) (F.t 45 rfl) rfl) fun a F => ?_
    refine lp rfl ?_
    refine w_store 1 H ty52 rfl (F.t 46 rfl) (F.t 44 rfl) rfl (one1 rfl rfl) (by first | decide | exact Nat.le_of_ble_eq_true rfl) ?_
    clear H; intro w H
    refine wn (hK7 _ _ ?_)
    refine sr fun khK8 hK8 => ?_
    refine la F rfl (x_loadn ty34 (F.t 7 rfl) rfl (blk_whole (H.at 7 rfl))) fun a F => ?_
    refine la F rfl (x_move (F.t 9 rfl)) fun a F => ?_
    refine lp rfl ?_
    refine w_storeA 4 H ty34 rfl (F.t 4 rfl) (F.t 47 rfl) rfl (by simp [Value.cells, Value.oneCell']) rfl ?_
    clear H; intro w H
    refine la F rfl (x_assign (F.t 48 rfl)) fun a F => ?_
    refine la F rfl (x_assign rfl) fun a F => ?_
    refine wn (hK8 _ _ ?_)
    refine wp_ret ?_
    try simp only [Exit.then, Exit.inBlock]
    rw [wy_del] at H F
    have hM_ := hyr.2.2.1
    exact fin_ret F (resct3 F rfl rfl rfl rfl (H.at 4 rfl) ty34 rfl) ⟨Asn.all [(1, .blk bb (.cells #[.slice Aw (wy (s.ways.take i.toNat ++ s.ways.drop (i.toNat + 1))).length cw, .int .i64 (gi s.eps 0), .int .i64 (gi s.eps 1), .int .i64 (gi s.eps 2), .int .i64 (gi s.eps 3), .int .i64 (gi s.eps 4), .int .i64 (gi s.eps 5), .int .i64 (gi s.eps 6), .int .i64 (gi s.eps 7), .int .i64 s.lost] 54 (0, 0))), (2, .row WayE 61 (.slice Aw (wy (s.ways.take i.toNat ++ s.ways.drop (i.toNat + 1))).length cw) (wy (s.ways.take i.toNat ++ s.ways.drop (i.toNat + 1))) okw)], An70, cn70, Ac70, cc70, okm70, by rw [hyr.2.1, hyr.2.2.2.1] <;> rfl, by rw [hM_]; exact ⟨_, _, _, rfl⟩, grew_of (H.sub [(1, .blk bb (.cells #[.slice Aw (wy (s.ways.take i.toNat ++ s.ways.drop (i.toNat + 1))).length cw, .int .i64 (gi s.eps 0), .int .i64 (gi s.eps 1), .int .i64 (gi s.eps 2), .int .i64 (gi s.eps 3), .int .i64 (gi s.eps 4), .int .i64 (gi s.eps 5), .int .i64 (gi s.eps 6), .int .i64 (gi s.eps 7), .int .i64 s.lost] 54 (0, 0))), (2, .row WayE 61 (.slice Aw (wy (s.ways.take i.toNat ++ s.ways.drop (i.toNat + 1))).length cw) (wy (s.ways.take i.toNat ++ s.ways.drop (i.toNat + 1))) okw)] (sub_cons (sub_cons (sub_nil _) 2 rfl) 1 rfl)) (rdin_cons (fun k h => h.elim) (rdin_cons (fun k h => .inr (.inl ⟨2, _, rfl, h⟩)) rdin_nil)), ⟨H.rd 70 rfl, H.rd 71 rfl⟩, (fun k h => ⟨hfz_ k h, H.inb 70 _ rfl k (.inr h)⟩), (own_cons (fun k hk h => H.sep 1 70 _ _ (by decide) rfl rfl k hk (.inr h)) (own_cons (fun k hk h => H.sep 2 70 _ _ (by decide) rfl rfl k hk (.inr h)) own_nil))⟩
   ·
    refine w_at F (x_load1 ty3 (F.t 33 rfl) (blk_cell ((H.holds 100 _ rfl).holds 1 _ rfl) _ (eps_at hd0 hd1))) rfl rfl ?_
    clear F; intro a F
    refine aN (SL.of H (sub_cons (sub_nil _) 7 rfl)) fun hS => ?_
    refine r_do 7 rfl (by kernel_rfl) rfl rfl ?_
    refine w_at F (x_load1 ty3 (F.t 26 rfl) (way_cell2 ((H.holds 100 _ rfl).holds 2 _ rfl) hyes)) rfl rfl ?_
    clear F; intro a F
    refine aN (SL.of H (sub_cons (sub_nil _) 7 rfl)) fun hS => ?_
    refine rT 15 F rfl (by kernel_rfl) pq rfl hS (fun w hS => x_eql (F.t 27 rfl) (F.t 34 rfl)) rfl fun a F => ?_
    rw [show decide ((idW s i).2 = gi s.eps (lookM s i).dst) = decide ((idW s i).2 = gi s.eps (idW s i).1.dst) by rw [hyr.1]] at F
    refine rT 16 F rfl (by kernel_rfl) pq rfl hS (fun w hS => x_assign (F.t 35 rfl)) rfl fun a F => ?_
    refine r_end (by kernel_rfl) ?_; clear hS
    refine hK6 _ _ ?_
    refine sr fun khK9 hK9 => ?_
    have H := H.unbundle (L := [(1, .blk bb (.cells #[.slice Aw (wy s.ways).length cw, .int .i64 (gi s.eps 0), .int .i64 (gi s.eps 1), .int .i64 (gi s.eps 2), .int .i64 (gi s.eps 3), .int .i64 (gi s.eps 4), .int .i64 (gi s.eps 5), .int .i64 (gi s.eps 6), .int .i64 (gi s.eps 7), .int .i64 s.lost] 54 (0, 0))), (2, .row WayE 61 (.slice Aw (wy s.ways).length cw) (wy s.ways) okw)]) (N := [(990, .lib true), (4, .blk b4 (.cells #[.int .i64 0, .int .i64 0, .int .i64 0, .int .i64 0, .slice none 0 0, .slice none 0 0] 34 (0, 0))), (70, .rd_ (.int .i64) An70 ((lookM s i).nodes) cn70 okm70), (71, .rd_ ChgE Ac70 ((lookM s i).changes) cc70 okm70), (7, .blk b7 (.cells #[.int .i64 (lookM s i).kind, .int .i64 (lookM s i).src, .int .i64 (lookM s i).dst, .int .i64 (lookM s i).tx, .slice An70 (lookM s i).nodes.length cn70, .slice Ac70 (lookM s i).changes.length cc70] 34 (0, 0)))]) 100 rfl (sub_cons (sub_cons (sub_cons (sub_cons (sub_cons (sub_nil _) 7 rfl) 71 rfl) 70 rfl) 4 rfl) 990 rfl) rfl
    refine la F rfl (x_move (F.t 0 rfl)) fun a F => ?_
    refine la F rfl (x_move (F.t 0 rfl)) fun a F => ?_
    refine la F rfl (x_nil (F.t 37 rfl)) fun a F => ?_
    refine la F rfl (x_faddr Tryz.underlying54 rfl ty52 (by decide) (F.t 38 rfl) rfl) fun a F => ?_
    refine la F rfl (x_load1 ty52 (F.t 39 rfl) (blk_cell (H.at 1 rfl) 0 rfl)) fun a F => ?_
    refine la F rfl (x_move (F.t 1 rfl)) fun a F => ?_
    refine la F rfl (x_move (F.t 1 rfl)) fun a F => ?_
    have hfew2 := hs.few
    refine la F rfl (x_add (F.t 42 rfl) rfl (w64 (by omega) (by omega))) fun a F => ?_
    refine lp rfl ?_
    refine w_call F (x_enter Tryz.func27 (by kernel_rfl) rfl (by simp only [bM, F.t 40 rfl, F.t 41 rfl, F.t 43 rfl] <;> rfl)) (del_callsI _ (H.row 2 rfl) (fun k h => H.inb 2 _ rfl k (.inr h)) (fun k h h2 => H.self 2 _ rfl k h h2) hio.1 (by rw [hwl]; exact hio.2)) rfl rfl ?_
    rintro _ w ⟨rfl, hm_, hr_⟩; refine ⟨_, rfl, ?_⟩; clear F; intro a F; have H := H.rowSame 2 rfl hm_ hr_ (by cases Aw <;> rfl)
    refine la F rfl (x_nil (F.t 36 rfl)) fun a F => ?_
    refine la F rfl (x_faddr Tryz.underlying54 rfl ty52 (by decide) (F.t 45 rfl) rfl) fun a F => ?_
    refine lp rfl ?_
    refine w_store 1 H ty52 rfl (F.t 46 rfl) (F.t 44 rfl) rfl (one1 rfl rfl) (by first | decide | exact Nat.le_of_ble_eq_true rfl) ?_
    clear H; intro w H
    refine wn (hK9 _ _ ?_)
    refine sr fun khK10 hK10 => ?_
    refine la F rfl (x_loadn ty34 (F.t 7 rfl) rfl (blk_whole (H.at 7 rfl))) fun a F => ?_
    refine la F rfl (x_move (F.t 9 rfl)) fun a F => ?_
    refine lp rfl ?_
    refine w_storeA 4 H ty34 rfl (F.t 4 rfl) (F.t 47 rfl) rfl (by simp [Value.cells, Value.oneCell']) rfl ?_
    clear H; intro w H
    refine la F rfl (x_assign (F.t 48 rfl)) fun a F => ?_
    refine la F rfl (x_assign rfl) fun a F => ?_
    refine wn (hK10 _ _ ?_)
    refine wp_ret ?_
    try simp only [Exit.then, Exit.inBlock]
    rw [wy_del] at H F
    have hM_ := hyr.2.2.1
    exact fin_ret F (resct3 F rfl rfl rfl rfl (H.at 4 rfl) ty34 rfl) ⟨Asn.all [(1, .blk bb (.cells #[.slice Aw (wy (s.ways.take i.toNat ++ s.ways.drop (i.toNat + 1))).length cw, .int .i64 (gi s.eps 0), .int .i64 (gi s.eps 1), .int .i64 (gi s.eps 2), .int .i64 (gi s.eps 3), .int .i64 (gi s.eps 4), .int .i64 (gi s.eps 5), .int .i64 (gi s.eps 6), .int .i64 (gi s.eps 7), .int .i64 s.lost] 54 (0, 0))), (2, .row WayE 61 (.slice Aw (wy (s.ways.take i.toNat ++ s.ways.drop (i.toNat + 1))).length cw) (wy (s.ways.take i.toNat ++ s.ways.drop (i.toNat + 1))) okw)], An70, cn70, Ac70, cc70, okm70, by rw [hyr.2.1, hyr.2.2.2.1] <;> rfl, by rw [hM_]; exact ⟨_, _, _, rfl⟩, grew_of (H.sub [(1, .blk bb (.cells #[.slice Aw (wy (s.ways.take i.toNat ++ s.ways.drop (i.toNat + 1))).length cw, .int .i64 (gi s.eps 0), .int .i64 (gi s.eps 1), .int .i64 (gi s.eps 2), .int .i64 (gi s.eps 3), .int .i64 (gi s.eps 4), .int .i64 (gi s.eps 5), .int .i64 (gi s.eps 6), .int .i64 (gi s.eps 7), .int .i64 s.lost] 54 (0, 0))), (2, .row WayE 61 (.slice Aw (wy (s.ways.take i.toNat ++ s.ways.drop (i.toNat + 1))).length cw) (wy (s.ways.take i.toNat ++ s.ways.drop (i.toNat + 1))) okw)] (sub_cons (sub_cons (sub_nil _) 2 rfl) 1 rfl)) (rdin_cons (fun k h => h.elim) (rdin_cons (fun k h => .inr (.inl ⟨2, _, rfl, h⟩)) rdin_nil)), ⟨H.rd 70 rfl, H.rd 71 rfl⟩, (fun k h => ⟨hfz_ k h, H.inb 70 _ rfl k (.inr h)⟩), (own_cons (fun k hk h => H.sep 1 70 _ _ (by decide) rfl rfl k hk (.inr h)) (own_cons (fun k hk h => H.sep 2 70 _ _ (by decide) rfl rfl k hk (.inr h)) own_nil))⟩
  ·
   refine w_at F (x_load1 ty3 (F.t 33 rfl) (blk_cell ((H.holds 100 _ rfl).holds 1 _ rfl) _ (eps_at hd0 hd1))) rfl rfl ?_
   clear F; intro a F
   refine aN (SL.of H (sub_cons (sub_nil _) 7 rfl)) fun hS => ?_
   refine r_do 3 rfl (by kernel_rfl) rfl rfl ?_
   refine w_at F (x_load1 ty52 (F.t 22 rfl) (blk_cell ((H.holds 100 _ rfl).holds 1 _ rfl) 0 rfl)) rfl rfl ?_
   clear F; intro a F
   refine aN (SL.of H (sub_cons (sub_nil _) 7 rfl)) fun hS => ?_
   refine rT 5 F rfl (by kernel_rfl) pq rfl hS (fun w hS => x_iaddr_A Tryz.underlying52 ty61 (hrd2) (F.t 23 rfl) (F.t 24 rfl) (by omega) (by rw [hwl]; omega) _) rfl fun a F => ?_
   refine rT 6 F rfl (by kernel_rfl) pq rfl hS (fun w hS => x_faddrA (hrd2) (by rw [hwl]; omega) _ Tryz.underlying61 rfl ty3 (by decide) (F.t 25 rfl) rfl) rfl fun a F => ?_
   refine r_do 7 rfl (by kernel_rfl) rfl rfl ?_
   refine w_at F (x_load1 ty3 (F.t 26 rfl) (way_cell2 ((H.holds 100 _ rfl).holds 2 _ rfl) hyes)) rfl rfl ?_
   clear F; intro a F
   refine aN (SL.of H (sub_cons (sub_nil _) 7 rfl)) fun hS => ?_
   refine rT 15 F rfl (by kernel_rfl) pq rfl hS (fun w hS => x_eql (F.t 27 rfl) (F.t 34 rfl)) rfl fun a F => ?_
   rw [show decide ((idW s i).2 = gi s.eps (lookM s i).dst) = decide ((idW s i).2 = gi s.eps (idW s i).1.dst) by rw [hyr.1]] at F
   refine rT 16 F rfl (by kernel_rfl) pq rfl hS (fun w hS => x_assign (F.t 35 rfl)) rfl fun a F => ?_
   refine r_end (by kernel_rfl) ?_; clear hS
   refine hK6 _ _ ?_
   refine sr fun khK11 hK11 => ?_
   have H := H.unbundle (L := [(1, .blk bb (.cells #[.slice Aw (wy s.ways).length cw, .int .i64 (gi s.eps 0), .int .i64 (gi s.eps 1), .int .i64 (gi s.eps 2), .int .i64 (gi s.eps 3), .int .i64 (gi s.eps 4), .int .i64 (gi s.eps 5), .int .i64 (gi s.eps 6), .int .i64 (gi s.eps 7), .int .i64 s.lost] 54 (0, 0))), (2, .row WayE 61 (.slice Aw (wy s.ways).length cw) (wy s.ways) okw)]) (N := [(990, .lib true), (4, .blk b4 (.cells #[.int .i64 0, .int .i64 0, .int .i64 0, .int .i64 0, .slice none 0 0, .slice none 0 0] 34 (0, 0))), (70, .rd_ (.int .i64) An70 ((lookM s i).nodes) cn70 okm70), (71, .rd_ ChgE Ac70 ((lookM s i).changes) cc70 okm70), (7, .blk b7 (.cells #[.int .i64 (lookM s i).kind, .int .i64 (lookM s i).src, .int .i64 (lookM s i).dst, .int .i64 (lookM s i).tx, .slice An70 (lookM s i).nodes.length cn70, .slice Ac70 (lookM s i).changes.length cc70] 34 (0, 0)))]) 100 rfl (sub_cons (sub_cons (sub_cons (sub_cons (sub_cons (sub_nil _) 7 rfl) 71 rfl) 70 rfl) 4 rfl) 990 rfl) rfl
   refine la F rfl (x_move (F.t 0 rfl)) fun a F => ?_
   refine la F rfl (x_move (F.t 0 rfl)) fun a F => ?_
   refine la F rfl (x_nil (F.t 37 rfl)) fun a F => ?_
   refine la F rfl (x_faddr Tryz.underlying54 rfl ty52 (by decide) (F.t 38 rfl) rfl) fun a F => ?_
   refine la F rfl (x_load1 ty52 (F.t 39 rfl) (blk_cell (H.at 1 rfl) 0 rfl)) fun a F => ?_
   refine la F rfl (x_move (F.t 1 rfl)) fun a F => ?_
   refine la F rfl (x_move (F.t 1 rfl)) fun a F => ?_
   have hfew2 := hs.few
   refine la F rfl (x_add (F.t 42 rfl) rfl (w64 (by omega) (by omega))) fun a F => ?_
   refine lp rfl ?_
   refine w_call F (x_enter Tryz.func27 (by kernel_rfl) rfl (by simp only [bM, F.t 40 rfl, F.t 41 rfl, F.t 43 rfl] <;> rfl)) (del_callsI _ (H.row 2 rfl) (fun k h => H.inb 2 _ rfl k (.inr h)) (fun k h h2 => H.self 2 _ rfl k h h2) hio.1 (by rw [hwl]; exact hio.2)) rfl rfl ?_
   rintro _ w ⟨rfl, hm_, hr_⟩; refine ⟨_, rfl, ?_⟩; clear F; intro a F; have H := H.rowSame 2 rfl hm_ hr_ (by cases Aw <;> rfl)
   refine la F rfl (x_nil (F.t 36 rfl)) fun a F => ?_
   refine la F rfl (x_faddr Tryz.underlying54 rfl ty52 (by decide) (F.t 45 rfl) rfl) fun a F => ?_
   refine lp rfl ?_
   refine w_store 1 H ty52 rfl (F.t 46 rfl) (F.t 44 rfl) rfl (one1 rfl rfl) (by first | decide | exact Nat.le_of_ble_eq_true rfl) ?_
   clear H; intro w H
   refine wn (hK11 _ _ ?_)
   refine sr fun khK12 hK12 => ?_
   refine la F rfl (x_loadn ty34 (F.t 7 rfl) rfl (blk_whole (H.at 7 rfl))) fun a F => ?_
   refine la F rfl (x_move (F.t 9 rfl)) fun a F => ?_
   refine lp rfl ?_
   refine w_storeA 4 H ty34 rfl (F.t 4 rfl) (F.t 47 rfl) rfl (by simp [Value.cells, Value.oneCell']) rfl ?_
   clear H; intro w H
   refine la F rfl (x_assign (F.t 48 rfl)) fun a F => ?_
   refine la F rfl (x_assign rfl) fun a F => ?_
   refine wn (hK12 _ _ ?_)
   refine wp_ret ?_
   try simp only [Exit.then, Exit.inBlock]
   rw [wy_del] at H F
   have hM_ := hyr.2.2.1
   exact fin_ret F (resct3 F rfl rfl rfl rfl (H.at 4 rfl) ty34 rfl) ⟨Asn.all [(1, .blk bb (.cells #[.slice Aw (wy (s.ways.take i.toNat ++ s.ways.drop (i.toNat + 1))).length cw, .int .i64 (gi s.eps 0), .int .i64 (gi s.eps 1), .int .i64 (gi s.eps 2), .int .i64 (gi s.eps 3), .int .i64 (gi s.eps 4), .int .i64 (gi s.eps 5), .int .i64 (gi s.eps 6), .int .i64 (gi s.eps 7), .int .i64 s.lost] 54 (0, 0))), (2, .row WayE 61 (.slice Aw (wy (s.ways.take i.toNat ++ s.ways.drop (i.toNat + 1))).length cw) (wy (s.ways.take i.toNat ++ s.ways.drop (i.toNat + 1))) okw)], An70, cn70, Ac70, cc70, okm70, by rw [hyr.2.1, hyr.2.2.2.1] <;> rfl, by rw [hM_]; exact ⟨_, _, _, rfl⟩, grew_of (H.sub [(1, .blk bb (.cells #[.slice Aw (wy (s.ways.take i.toNat ++ s.ways.drop (i.toNat + 1))).length cw, .int .i64 (gi s.eps 0), .int .i64 (gi s.eps 1), .int .i64 (gi s.eps 2), .int .i64 (gi s.eps 3), .int .i64 (gi s.eps 4), .int .i64 (gi s.eps 5), .int .i64 (gi s.eps 6), .int .i64 (gi s.eps 7), .int .i64 s.lost] 54 (0, 0))), (2, .row WayE 61 (.slice Aw (wy (s.ways.take i.toNat ++ s.ways.drop (i.toNat + 1))).length cw) (wy (s.ways.take i.toNat ++ s.ways.drop (i.toNat + 1))) okw)] (sub_cons (sub_cons (sub_nil _) 2 rfl) 1 rfl)) (rdin_cons (fun k h => h.elim) (rdin_cons (fun k h => .inr (.inl ⟨2, _, rfl, h⟩)) rdin_nil)), ⟨H.rd 70 rfl, H.rd 71 rfl⟩, (fun k h => ⟨hfz_ k h, H.inb 70 _ rfl k (.inr h)⟩), (own_cons (fun k hk h => H.sep 1 70 _ _ (by decide) rfl rfl k hk (.inr h)) (own_cons (fun k hk h => H.sep 2 70 _ _ (by decide) rfl rfl k hk (.inr h)) own_nil))⟩
theorem twice_calls (w0 : World) (hL : LibAt true w0) {X : Asn} {bb : Nat} {s : BagS} (hX : BagA 54 61 bb s X) (hok : X.ok w0) (hs : BagOk s) (hLX : ∀ k, (Asn.lib true).rd k → ¬ X.own k) (i : Int) : Calls Tryz.prog 11 #[.pointer (some ⟨bb, 0, none⟩), .int .i64 i] w0 fun e w' => ∃ X', e = .returned (.int .i64 (twiceE s i)) ∧ BagA 54 61 bb (twiceS s i) X' ∧ Grew (fun _ => False) (fun _ => False) X w0 w' X' := by
 refine cow Tryz.func11 rfl Tryz.ntmps11 (Nat.le_of_ble_eq_true rfl) fun a F => ?_
 have H := Hp.own1 hok 100
 have hfew := hs.few
 have H := H.lib 990 hL (fun j Y hY k hk hk2 => by rcases Sx.get_one hY with ⟨_, rfl⟩ | ⟨_, h⟩; exact hLX k hk2 hk; simp [Sx.get] at h)
 obtain ⟨Aw, cw, hV⟩ := hX.row
 have hwl := wy_len s.ways
 refine sr fun khK1 hK1 => ?_
 refine la F rfl (x_assign rfl) fun a F => ?_
 refine wn (hK1 _ _ ?_)
 refine wp_seq_k fun khK2 hK2 => ?_
 refine sr fun khK3 hK3 => ?_
 refine la F rfl (x_move (F.t 0 rfl)) fun a F => ?_
 refine la F rfl (x_move (F.t 1 rfl)) fun a F => ?_
 refine lp rfl ?_
 refine w_call F (x_enter Tryz.func19 (by kernel_rfl) rfl (by simp only [bM, F.t 8 rfl, F.t 9 rfl] <;> rfl)) (look_calls _ (H.holds 990 _ rfl) hX (H.okX 100 rfl) hs i) rfl rfl ?_
 rintro _ w ⟨An70, cn70, Ac70, cc70, okm70, rfl, hm_, ⟨h1_, h2_⟩, hf_⟩; refine ⟨_, rfl, ?_⟩; clear F; intro a F; have h3_ := (H.same hm_).rdNew 70 (fun i A' hA k hk => H.inb i A' hA k (.inl hk)) h1_ hf_; have H := (h3_.1.rdNew 71 h3_.2 h2_ hf_).1
 refine la F rfl (x_move (F.t 10 rfl)) fun a F => ?_
 refine la F rfl (x_extract (F.t 7 rfl) rfl) fun a F => ?_
 refine la F rfl (x_extract (F.t 7 rfl) rfl) fun a F => ?_
 refine lp rfl ?_
 refine w_alloc 5 F H rfl ty34 ?_
 clear F H; intro a w b5 F H
 refine lp rfl ?_
 refine w_storeA 5 H ty34 rfl (F.t 5 rfl) (F.t 11 rfl) rfl (by simp [Value.cells, Value.oneCell']) rfl ?_
 clear H; intro w H
 refine la F rfl (x_assign (F.t 12 rfl)) fun a F => ?_
 refine wn (hK3 _ _ ?_)
 refine sr fun khK4 hK4 => ?_
 refine la F rfl (x_move (F.t 6 rfl)) fun a F => ?_
 refine la F rfl (x_neq (F.t 13 rfl) rfl) fun a F => ?_
 refine wn (hK4 _ _ ?_)
 refine wp_cond_split (F.t 14 rfl) (fun hc14 => ?_) (fun hc14 => ?_)
 ·have hk14_1 := hc14; try simp only [bL] at hc14
  refine sr fun khK5 hK5 => ?_
  refine la F rfl (x_move (F.t 6 rfl)) fun a F => ?_
  refine la F rfl (x_assign (F.t 15 rfl)) fun a F => ?_
  refine wn (hK5 _ _ ?_)
  refine wp_ret ?_
  try simp only [Exit.then, Exit.inBlock]
  have hno := look_no (look_nz hc14)
  exact fin_ret F (res1 F rfl rfl) ⟨X, by rw [hno.2.2.2.2.2.1, ← hno.2.1] <;> rfl, by rw [hno.2.2.2.2.1]; exact hX, grew_lab H 100 rfl (fun k hk => .inr (.inl hk))⟩
 ·have hk14_2 := hc14; try simp only [bL] at hc14
  have hyes := look_zero hc14
  have hio := isW_parts hyes
  have hyr := look_yes hyes
  obtain ⟨fA, fc, okb, hrb_, hsub_, hcs_, _⟩ := (hV _ (H.holds 100 _ rfl)).2.2.2 i hyes
  refine wp_skip ?_
  refine hK2 _ _ ?_
  refine sr fun khK6 hK6 => ?_
  refine la F rfl (x_move (F.t 0 rfl)) fun a F => ?_
  refine la F rfl (x_move (F.t 0 rfl)) fun a F => ?_
  refine la F rfl (x_nil (F.t 17 rfl)) fun a F => ?_
  refine la F rfl (x_faddr Tryz.underlying54 rfl ty52 (by decide) (F.t 18 rfl) rfl) fun a F => ?_
  refine la F rfl (x_load1 ty52 (F.t 19 rfl) (hV _ (H.holds 100 _ rfl)).1) fun a F => ?_
  refine la F rfl (x_move (F.t 1 rfl)) fun a F => ?_
  refine la F rfl (x_iaddr_A Tryz.underlying52 ty61 ((hV _ (H.holds 100 _ rfl)).2.1) (F.t 20 rfl) (F.t 21 rfl) (by omega) (by rw [hwl]; omega) _) fun a F => ?_
  refine la F rfl (x_loadn ty61 (F.t 22 rfl) rfl hcs_) fun a F => ?_
  have hsz2_ := H.mods.size
  refine lp rfl ?_
  refine w_call F (x_enter Tryz.func24 (by kernel_rfl) rfl (by simp only [bM, F.t 16 rfl, F.t 23 rfl] <;> rfl)) (put_calls (p := (idW s i)) _ hX (H.okX 100 rfl) hs hrb_ (fun k h => H.inb 100 _ rfl k (.inr (hsub_ k h))) (fun k h hx => H.self 100 _ rfl k hx (hsub_ k h))) rfl rfl ?_
  rintro _ w ⟨X2, rfl, hX2, hg_⟩; refine ⟨_, rfl, ?_⟩; clear F; intro a F; have H := H.grew 100 rfl hg_ (fun k hk => ⟨100, _, rfl, hsub_ k hk⟩)
  refine la F rfl (x_assign (F.t 24 rfl)) fun a F => ?_
  refine wn (hK6 _ _ ?_)
  refine wp_ret ?_
  try simp only [Exit.then, Exit.inBlock]
  exact fin_ret F (res1 F rfl rfl) ⟨X2, by rw [hyr.2.2.2.2.2.1] <;> rfl, by rw [hyr.2.2.2.2.1]; exact hX2, grew_lab H 100 rfl (fun k hk => by rcases hg_.rd k hk with h | h | h | h; exact .inl h; exact .inr (.inl h); exact .inr (.inl (hsub_ k h)); exact .inr (.inr (.inr (Nat.le_trans hsz2_ h))))⟩
theorem lose_calls (w0 : World) (hL : LibAt true w0) {X : Asn} {bb : Nat} {s : BagS} (hX : BagA 54 61 bb s X) (hok : X.ok w0) (hs : BagOk s) (hLX : ∀ k, (Asn.lib true).rd k → ¬ X.own k) (i : Int) : Calls Tryz.prog 13 #[.pointer (some ⟨bb, 0, none⟩), .int .i64 i] w0 fun e w' => ∃ X', e = .returned (.int .i64 (lookE s i)) ∧ BagA 54 61 bb (loseS s i) X' ∧ Grew (fun _ => False) (fun _ => False) X w0 w' X' := by
 refine cow Tryz.func13 rfl Tryz.ntmps13 (Nat.le_of_ble_eq_true rfl) fun a F => ?_
 have H := Hp.own1 hok 100
 have hfew := hs.few
 have H := H.lib 990 hL (fun j Y hY k hk hk2 => by rcases Sx.get_one hY with ⟨_, rfl⟩ | ⟨_, h⟩; exact hLX k hk2 hk; simp [Sx.get] at h)
 obtain ⟨Aw, cw, hV⟩ := hX.row
 have hwl := wy_len s.ways
 refine sr fun khK1 hK1 => ?_
 refine la F rfl (x_assign rfl) fun a F => ?_
 refine wn (hK1 _ _ ?_)
 refine sr fun khK2 hK2 => ?_
 refine la F rfl (x_move (F.t 0 rfl)) fun a F => ?_
 refine la F rfl (x_move (F.t 1 rfl)) fun a F => ?_
 have hsz_ := H.mods.size
 refine lp rfl ?_
 refine w_call F (x_enter Tryz.func8 (by kernel_rfl) rfl (by simp only [bM, F.t 9 rfl, F.t 10 rfl] <;> rfl)) (take_calls _ (H.holds 990 _ rfl) hX (H.okX 100 rfl) hs (fun k h hx => H.sep 100 990 _ _ (by decide) rfl rfl k hx (.inr h)) i) rfl rfl ?_
 rintro _ w ⟨X2, An70, cn70, Ac70, cc70, okm70, rfl, hX2, hg_, ⟨h1_, h2_⟩, hf_, hap_⟩; refine ⟨_, rfl, ?_⟩; clear F; intro a F; have hHo := H; have H := hHo.grew 100 rfl hg_ (fun k hk => hk.elim); have H := H.readNew (w := _) 100 70 (own_old hHo) (fun Y hY => by cases hY; exact hap_) h1_ hf_; have H := H.readNew 100 71 (own_old2 hHo) (fun Y hY => by cases hY; exact hap_) h2_ hf_
 refine la F rfl (x_move (F.t 11 rfl)) fun a F => ?_
 refine la F rfl (x_extract (F.t 8 rfl) rfl) fun a F => ?_
 refine la F rfl (x_extract (F.t 8 rfl) rfl) fun a F => ?_
 refine la F rfl (x_extract (F.t 8 rfl) rfl) fun a F => ?_
 refine lp rfl ?_
 refine w_alloc 5 F H rfl ty34 ?_
 clear F H; intro a w b5 F H
 refine lp rfl ?_
 refine w_storeA 5 H ty34 rfl (F.t 5 rfl) (F.t 12 rfl) rfl (by simp [Value.cells, Value.oneCell']) rfl ?_
 clear H; intro w H
 refine la F rfl (x_assign (F.t 13 rfl)) fun a F => ?_
 refine la F rfl (x_assign (F.t 14 rfl)) fun a F => ?_
 refine wn (hK2 _ _ ?_)
 refine wp_seq_k fun khK3 hK3 => ?_
 refine sr fun khK4 hK4 => ?_
 refine la F rfl (x_move (F.t 7 rfl)) fun a F => ?_
 refine la F rfl (x_eql (F.t 15 rfl) rfl) fun a F => ?_
 refine wn (hK4 _ _ ?_)
 refine wp_cond_split (F.t 16 rfl) (fun hc16 => ?_) (fun hc16 => ?_)
 ·have hk16_1 := hc16; try simp only [bL] at hc16
  have hyes := look_zero hc16
  have hyr := look_yes hyes
  obtain ⟨Aw2, cw2, okw2, rfl⟩ := hX2
  have H := H.unbundle (N := [(990, .lib true), (70, .rd_ (.int .i64) An70 ((lookM s i).nodes) cn70 okm70), (71, .rd_ ChgE Ac70 ((lookM s i).changes) cc70 okm70), (5, .blk b5 (.cells #[.int .i64 (lookM s i).kind, .int .i64 (lookM s i).src, .int .i64 (lookM s i).dst, .int .i64 (lookM s i).tx, .slice An70 (lookM s i).nodes.length cn70, .slice Ac70 (lookM s i).changes.length cc70] 34 (0, 0)))]) 100 rfl (sub_cons (sub_cons (sub_cons (sub_cons (sub_nil _) 5 rfl) 71 rfl) 70 rfl) 990 rfl) rfl
  refine wp_region_lit ?_
  refine la F rfl (x_move (F.t 0 rfl)) fun a F => ?_
  refine la F rfl (x_nil (F.t 17 rfl)) fun a F => ?_
  refine la F rfl (x_faddr Tryz.underlying54 rfl ty3 (by decide) (F.t 18 rfl) rfl) fun a F => ?_
  refine la F rfl (x_load1 ty3 (F.t 19 rfl) (blk_cell (H.at 1 rfl) 9 rfl)) fun a F => ?_
  refine la F rfl (x_add (F.t 20 rfl) rfl rfl) fun a F => ?_
  refine la F rfl (x_nil (F.t 17 rfl)) fun a F => ?_
  refine la F rfl (x_faddr Tryz.underlying54 rfl ty3 (by decide) (F.t 22 rfl) rfl) fun a F => ?_
  refine lp rfl ?_
  refine w_store 1 H ty3 rfl (F.t 23 rfl) (F.t 21 rfl) rfl (one1 rfl rfl) (by first | decide | exact Nat.le_of_ble_eq_true rfl) ?_
  clear H; intro w H
  refine wn (hK3 _ _ ?_)
  refine sr fun khK5 hK5 => ?_
  refine la F rfl (x_move (F.t 7 rfl)) fun a F => ?_
  refine la F rfl (x_assign (F.t 24 rfl)) fun a F => ?_
  refine wn (hK5 _ _ ?_)
  refine wp_ret ?_
  try simp only [Exit.then, Exit.inBlock]
  refine fin_ret F (res1 F rfl rfl) ⟨Asn.all [(1, .blk bb (.cells #[.slice Aw2 (wy (takeS s i).ways).length cw2, .int .i64 (gi (takeS s i).eps 0), .int .i64 (gi (takeS s i).eps 1), .int .i64 (gi (takeS s i).eps 2), .int .i64 (gi (takeS s i).eps 3), .int .i64 (gi (takeS s i).eps 4), .int .i64 (gi (takeS s i).eps 5), .int .i64 (gi (takeS s i).eps 6), .int .i64 (gi (takeS s i).eps 7), .int .i64 (w64I ((takeS s i).lost + 1))] 54 (0, 0))), (2, .row WayE 61 (.slice Aw2 (wy (takeS s i).ways).length cw2) (wy (takeS s i).ways) okw2)], rfl, by rw [hyr.2.2.2.2.2.2]; exact ⟨_, _, _, rfl⟩, grew_sub H (sub_cons (sub_cons (sub_nil _) 2 rfl) 1 rfl) (rdin_cons (fun k h => h.elim) (rdin_cons (fun k h => by rcases hg_.rd k ⟨2, _, rfl, h⟩ with h | h | h | h; exact .inl h; exact .inr (.inl h); exact h.elim; exact .inr (.inr (.inr (Nat.le_trans hsz_ h)))) rdin_nil))⟩
 ·have hk16_2 := hc16; try simp only [bL] at hc16
  refine wp_skip ?_
  refine hK3 _ _ ?_
  refine sr fun khK6 hK6 => ?_
  refine la F rfl (x_move (F.t 7 rfl)) fun a F => ?_
  refine la F rfl (x_assign (F.t 24 rfl)) fun a F => ?_
  refine wn (hK6 _ _ ?_)
  refine wp_ret ?_
  try simp only [Exit.then, Exit.inBlock]
  have hno := look_no (look_nz hc16)
  exact fin_ret F (res1 F rfl rfl) ⟨X2, rfl, by rw [hno.2.2.2.2.2.2, ← hno.2.2.1]; exact hX2, grew_lab H 100 rfl (fun k hk => by rcases hg_.rd k hk with h | h | h | h; exact .inl h; exact .inr (.inl h); exact h.elim; exact .inr (.inr (.inr (Nat.le_trans hsz_ h))))⟩
end Go.Proofs.YtfocpadeflpabaaGreatDoor.Act
