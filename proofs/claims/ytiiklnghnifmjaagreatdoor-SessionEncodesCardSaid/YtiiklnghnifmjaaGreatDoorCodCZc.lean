/- The walks of codec. -/
import Derived.Test.YtiiklnghnifmjaaGreatDoorCodAZc
import Derived.Test.YtiiklnghnifmjaaGreatDoorIterZc
import Derived.Test.YtiiklnghnifmjaaGreatDoorCodGZc
set_option linter.unusedVariables false
set_option maxRecDepth 100000
set_option maxHeartbeats 1000000
set_option linter.unusedSimpArgs false
namespace Go.Proofs.YtiiklnghnifmjaaGreatDoor.Cod
open Go.RowKit Go.Proofs.YtiiklnghnifmjaaGreatDoor.Sx
theorem ty30 : TyI Tryz.prog 30 (.int .i64 0) 1 8 false := ⟨by kernel_rfl, _, Tryz.underlying30, rfl⟩
theorem ty60 : TyI Tryz.prog 60 (.slice none 0 0) 1 24 false := ⟨by kernel_rfl, _, Tryz.underlying60, rfl⟩
theorem each_calls (w0 : World) (A : Option Addr) (m c : Nat) : Calls Tryz.prog 72 #[.slice A m c] w0 fun e w' => ∃ b1, e = .returned (.func (.func 102) #[] #[.pointer (some ⟨b1, 0, none⟩)]) ∧ Mods (fun _ => False) w0 w' ∧ w0.heap.size ≤ b1 ∧ w'.heap[b1]? = some (.cells #[.slice A m c] 27 (0, 0)) := by
 refine cow Tryz.func72 rfl Tryz.ntmps72 (Nat.le_of_ble_eq_true rfl) fun a F => ?_
 have H := Hp.nil (fun _ => False) w0
 refine sr fun _ hK1 => ?_
 refine lp rfl ?_
 refine w_box 1 F H rfl (F.t 0 rfl) ?_
 clear F H; intro a w b1 F H
 refine la F rfl (x_assign rfl) fun a F => wn (hK1 _ _ (sr fun _ hK2 => la F rfl (x_mkfunc (vs := #[.pointer (some ⟨b1, 0, none⟩)]) (by simp only [bM, F.t 1 rfl])) fun a F => la F rfl (x_assign (F.t 3 rfl)) fun a F => wn (hK2 _ _ ?_)))
 refine wp_ret ?_
 try simp only [Exit.then, Exit.inBlock]
 exact fin_ret F (res1 F rfl rfl) ⟨b1, rfl, H.mods, (H.mine 1 _ rfl b1 rfl).resolve_left (fun h => h), H.at 1 rfl⟩
def EncF (w : World) (x : Fld) (args : Array Value) (rdY : Nat → Prop) : Prop := ∃ A c, args = #[.agg #[.int .i64 x.1, .slice A x.2.length c]] ∧ Rd (.int .u8) w rdY A x.2 c
theorem each1_tells (w0 : World) {ok : Nat → Prop} {A : Option Addr} {bs : List Int} {c bb : Nat} (hby : Byt bs) (hLI : (Asn.all [(1, .blk bb (.cells #[.slice A bs.length c] 27 (0, 0))), (901, .rd_ (.int .u8) A bs c ok)]).holds w0) : Iterates Tryz.prog 102 #[.pointer (some ⟨bb, 0, none⟩)] EncF [(1, .blk bb (.cells #[.slice A bs.length c] 27 (0, 0))), (901, .rd_ (.int .u8) A bs c ok)] (fun _ => False) (fun xs => xs = items bs) w0 := by
 intro l JP DN X hX h1 h2 hR0 hJ0
 rw [show (#[.func (.yield l) #[] #[]] ++ #[.pointer (some ⟨bb, 0, none⟩)] : Array Value) = #[.func (.yield l) #[] #[], .pointer (some ⟨bb, 0, none⟩)] from rfl]
 refine cow Tryz.func102 rfl Tryz.ntmps102 (Nat.le_of_ble_eq_true rfl) fun a F => ?_
 have H := Hp.nil (fun k => X.own k ∨ OwnL [(1, .blk bb (.cells #[.slice A bs.length c] 27 (0, 0))), (901, .rd_ (.int .u8) A bs c ok)] k) w0
 have H := it_start hLI hX h1 h2 777
 have hno0 : ¬ LetsOut (bodyPost Tryz.prog Tryz.f102 (fun e w' => ∃ v X' xs, e = .returned v ∧ xs = items bs ∧ (JP xs X' ∨ ∃ pre, pre <+: xs ∧ DN pre X') ∧ Grew (OwnL [(1, .blk bb (.cells #[.slice A bs.length c] 27 (0, 0))), (901, .rd_ (.int .u8) A bs c ok)]) (fun _ => False) X w0 w' X')) := by rintro ⟨_, _, v, X', xs, h, _⟩; cases h
 refine wp_block ?_
 refine wp_loop_ghost (fun n_ a w => ∃ rest : List Int, ∃ A2 : Option Addr, ∃ c2 : Nat, ∃ pre : List Fld, ∃ X_ : Asn, n_ = 0 + rest.length ∧ (JP pre X_) ∧ (pre ++ items rest = items bs) ∧ (Byt rest) ∧ (∀ k, X_.rd k → X.own k ∨ X.rd k ∨ (fun _ => False : Nat → Prop) k ∨ w0.heap.size ≤ k) ∧ Fr 54 a [(0, .func (.yield l) #[] #[]), (1, .pointer (some ⟨bb, 0, none⟩))] ∧ Hp (fun k => X.own k ∨ OwnL [(1, .blk bb (.cells #[.slice A bs.length c] 27 (0, 0))), (901, .rd_ (.int .u8) A bs c ok)] k) w0 w [(777, X_), (1, .blk bb (.cells #[.slice A2 rest.length c2] 27 (0, 0))), (901, .rd_ (.int .u8) A2 rest c2 ok)]) (0 + bs.length) ?_ ?_
 ·exact ⟨bs, A, c, [], X, rfl, hJ0, rfl, hby, fun k h => .inr (.inl h), ((F.bare.add F 1 rfl).add F 0 rfl), H.sub _ (sub_cons (sub_cons (sub_cons (sub_nil _) 901 rfl) 1 rfl) 777 rfl)⟩
 rintro _ a w ⟨rest, A2, c2, pre, X_, rfl, hq0_0, hq0_1, hq0_2, hq0_3, F, H⟩
 have hle := (H.rd 901 rfl).le; unfold maxLen at hle
 refine wp_seq_k fun _ hK1 => ?_
 refine sr fun _ hK2 => la F rfl (x_load1 ty27 (F.t 1 rfl) (blk_cell (H.at 1 rfl) 0 rfl)) fun a F => la F rfl (x_len_slice Tryz.underlying27 (F.t 5 rfl)) fun a F => la F rfl (x_gtr (F.t 6 rfl) rfl) fun a F => wn (hK2 _ _ ?_)
 refine wp_cond_split (F.t 7 rfl) (fun hc7 => ?_) (fun hc7 => ?_)
 ·have hk7_1 := hc7; try simp only [bL] at hc7
  refine wp_skip (hK1 _ _ (wp_block (sr fun _ hK3 => la F rfl (x_buildS (cells := #[.int .i64 0, .slice none 0 0]) (places := #[(0, 1), (1, 1)]) Tryz.underlying57 ty57 (by kernel_rfl) Array.map_empty rfl) fun a F => ?_)))
  refine lp rfl ?_
  refine w_alloc 3 F H rfl ty57 ?_
  clear F H; intro a w b3 F H
  refine lp rfl ?_
  refine w_storeA 3 H ty57 rfl (F.t 3 rfl) (F.t 8 rfl) rfl (by simp [Value.cells, Value.oneCell']) rfl ?_
  clear H; intro w H
  refine wn (hK3 _ _ ?_)
  refine wp_seq_k fun khK4 hK4 => ?_
  refine sr fun _ hK5 => la F rfl (x_load1 ty27 (F.t 1 rfl) (blk_cell (H.at 1 rfl) 0 rfl)) fun a F => la F rfl (x_len_slice Tryz.underlying27 (F.t 9 rfl)) fun a F => la F rfl (x_geq (F.t 10 rfl) rfl) fun a F => wn (hK5 _ _ ?_)
  have hJ11 : ∀ a w, ∀ x : Fld, ∀ A3 : Option Addr, ∀ rest3 : List Int, ∀ c3 : Nat, ∀ Ax : Option Addr, ∀ cx : Nat, ∀ okx : Nat → Prop, (items rest = if x.1 = 0 then [x] else x :: items rest3) → (x.1 ≠ 0 → rest3.length < rest.length) → (Byt rest3) → (∀ k, okx k → X.own k ∨ w0.heap.size ≤ k) → Fr 54 a [(0, .func (.yield l) #[] #[]), (1, .pointer (some ⟨bb, 0, none⟩)), (3, .pointer (some ⟨b3, 0, none⟩))] → Hp (fun k => X.own k ∨ OwnL [(1, .blk bb (.cells #[.slice A bs.length c] 27 (0, 0))), (901, .rd_ (.int .u8) A bs c ok)] k) w0 w [(777, X_), (1, .blk bb (.cells #[.slice A3 rest3.length c3] 27 (0, 0))), (901, .rd_ (.int .u8) A3 rest3 c3 ok), (3, .blk b3 (.cells #[.int .i64 x.1, .slice Ax x.2.length cx] 57 (0, 0))), (30, .rd_ (.int .u8) Ax x.2 cx okx)] → khK4 a w := by
   intro a w x A3 rest3 c3 Ax cx okx hj11_0 hj11_1 hj11_2 hj11_3 F H
   refine hK4 a w ?_
   refine wp_seq_k fun _ hK6 => ?_
   refine region_of_in ?_
   refine li_at F rfl rfl rfl (noDefer_ne rfl) (x_move (F.t 0 rfl)) fun a F => ?_
   refine li_at F rfl rfl rfl (noDefer_ne rfl) (x_loadn ty57 (F.t 3 rfl) rfl (blk_whole (H.at 3 rfl))) fun a F => ?_
   have hround := hR0 pre x X_ w #[.agg #[.int .i64 x.1, .slice Ax x.2.length cx]] okx ⟨items bs, rfl, ⟨if x.1 = 0 then [] else items rest3, by rw [← hq0_1, hj11_0]; split <;> simp⟩⟩ hq0_0 (it_ok H 777 rfl) ⟨Ax, cx, rfl, H.rd 30 rfl⟩ (fun k hk => ⟨H.inb 30 _ rfl k (.inr hk), fun h => H.sep 777 30 _ _ (by decide) rfl rfl k h (.inr hk)⟩)
   refine li_yield F rfl (F.t 45 rfl) (vs := #[.agg #[.int .i64 x.1, .slice Ax x.2.length cx]]) (by simp only [bM, F.t 46 rfl]) hround ?_; clear F; intro a w b_ X2 F hR hG
   have hr2 : ∀ k, X2.rd k → X.own k ∨ X.rd k ∨ (fun _ => False : Nat → Prop) k ∨ w0.heap.size ≤ k := by
    intro k hk; rcases hG.rd k hk with h1 | h1 | h1 | h1
    ·exact (it_own H 777 rfl (own_cons (fun k hk h2 => H.sep 1 777 _ _ (by decide) rfl rfl k hk (.inl h2)) (own_cons (fun k hk => hk.elim) own_nil)) k h1).imp id (fun h => .inr (.inr h))
    ·exact hq0_3 k h1
    ·exact (hj11_3 k h1).imp id (fun h => .inr (.inr h))
    exact .inr (.inr (.inr (Nat.le_trans H.mods.size h1)))
   have H := H.grew 777 rfl hG (fun k hk => ⟨30, _, rfl, hk⟩)
   cases b_
   ·
    replace hR : DN (pre ++ [x]) X2 := hR
    refine li_rest (by repeat (first | exact hno0 | apply no_then | apply no_block)) rfl ?_
    refine la F rfl (x_not (F.t 47 rfl)) fun a F => la F rfl (x_move (F.t 48 rfl)) fun a F => lo F rfl fun a F => lo F rfl fun a F => lo F rfl fun a F => la F rfl (x_pickT (F.t 49 rfl) rfl rfl) fun a F => wn (hK6 _ _ ?_)
    refine wp_cond_true (F.t 53 rfl) ?_
    refine wp_ret ?_
    try simp only [Exit.then, Exit.inBlock]
    exact fin_ret F (res0 rfl) ⟨_, X2, items bs, rfl, rfl, .inr ⟨_, ⟨if x.1 = 0 then [] else items rest3, by rw [← hq0_1, hj11_0]; split <;> simp⟩, hR⟩, (grew_it H 777 rfl (own_cons (fun k hk h2 => H.sep 1 777 _ _ (by decide) rfl rfl k hk (.inl h2)) (own_cons (fun k hk => hk.elim) own_nil)) hr2)⟩
   ·
    replace hR : JP (pre ++ [x]) X2 := hR
    refine li_rest (by repeat (first | exact hno0 | apply no_then | apply no_block)) rfl ?_
    refine la F rfl (x_not (F.t 47 rfl)) fun a F => la F rfl (x_move (F.t 48 rfl)) fun a F => lg F rfl (x_faddr Tryz.underlying57 rfl ty3 (by decide) (F.t 3 rfl) rfl) fun a F => lg F rfl (x_load1 ty3 (F.t 50 rfl) (blk_cell (H.at 3 rfl) 0 rfl)) fun a F => lg F rfl (x_eql (F.t 51 rfl) rfl) fun a F => la F rfl (x_pickF (F.t 49 rfl) rfl (F.t 52 rfl)) fun a F => wn (hK6 _ _ ?_)
    refine wp_cond_split (F.t 53 rfl) (fun hc53 => ?_) (fun hc53 => ?_)
    ·have hk53_2 := hc53; try simp only [bL] at hc53
     refine wp_ret ?_
     try simp only [Exit.then, Exit.inBlock]
     rw [if_pos hc53] at hj11_0
     rw [hj11_0] at hq0_1
     exact fin_ret F (res0 rfl) ⟨_, X2, items bs, rfl, rfl, .inl (hq0_1 ▸ hR), (grew_it H 777 rfl (own_cons (fun k hk h2 => H.sep 1 777 _ _ (by decide) rfl rfl k hk (.inl h2)) (own_cons (fun k hk => hk.elim) own_nil)) hr2)⟩
    have hk53_3 := hc53; try simp only [bL] at hc53
    refine wp_skip ?_
    have hnx : (pre ++ [x]) ++ items rest3 = items bs := by rw [← hq0_1, hj11_0, if_neg hc53, List.append_assoc]; rfl
    have hlt := hj11_1 hc53
    exact ⟨_, by omega, ⟨rest3, A3, c3, pre ++ [x], X2, rfl, hR, hnx, hj11_2, hr2, ((F.bare.add F 1 rfl).add F 0 rfl), H.sub _ (sub_cons (sub_cons (sub_cons (sub_nil _) 901 rfl) 1 rfl) 777 rfl)⟩⟩
  refine wp_cond_split (F.t 11 rfl) (fun hc11 => ?_) (fun hc11 => ?_)
  ·have hk11_4 := hc11; try simp only [bL] at hc11
   refine wp_seq_k fun _ hK7 => ?_
   refine r_start [(1, .blk bb (.cells #[.slice A2 rest.length c2] 27 (0, 0))), (901, .rd_ (.int .u8) A2 rest c2 ok)] (by kernel_rfl) H fun H => ?_
   have hS : SL [(1, .blk bb (.cells #[.slice A2 rest.length c2] 27 (0, 0))), (901, .rd_ (.int .u8) A2 rest c2 ok)] _ := SL.of H (sub_cons (sub_cons (sub_nil _) 901 rfl) 1 rfl)
   refine rT 0 F rfl (by kernel_rfl) pq rfl hS (fun w hS => x_load1 ty27 (F.t 1 rfl) (blk_cell (SL.at_ hS 1 rfl) 0 rfl)) rfl fun a F => ?_
   refine rT 1 F rfl (by kernel_rfl) pq rfl hS (fun w hS => x_iaddr_A Tryz.underlying27 ty5 ((H.rd 901 rfl)) (F.t 12 rfl) rfl (by omega) (by omega) _) rfl fun a F => ?_
   refine rT 2 F rfl (by kernel_rfl) pq rfl hS (fun w hS => x_load1 ty5 (F.t 13 rfl) (((SL.rd hS 901 rfl)).cellA (gi_some (i := 1) (by omega) (by omega)))) rfl fun a F => ?_
   refine rT 3 F rfl (by kernel_rfl) pq rfl hS (fun w hS => x_conv Tryz.underlying3 ⟨_, Tryz.underlying5⟩ (F.t 14 rfl) (w64 (by have := (hq0_2.gi 1).1; omega) (by have := (hq0_2.gi 1).2; omega))) rfl fun a F => ?_
   refine rT 4 F rfl (by kernel_rfl) pq rfl hS (fun w hS => x_shl (F.t 15 rfl) rfl (by omega) (shl8i (hq0_2.gi 1).1 (hq0_2.gi 1).2)) rfl fun a F => ?_
   refine rT 5 F rfl (by kernel_rfl) pq rfl hS (fun w hS => x_load1 ty27 (F.t 1 rfl) (blk_cell (SL.at_ hS 1 rfl) 0 rfl)) rfl fun a F => ?_
   refine rT 6 F rfl (by kernel_rfl) pq rfl hS (fun w hS => x_iaddr_A Tryz.underlying27 ty5 ((H.rd 901 rfl)) (F.t 17 rfl) rfl (by omega) (by omega) _) rfl fun a F => ?_
   refine rT 7 F rfl (by kernel_rfl) pq rfl hS (fun w hS => x_load1 ty5 (F.t 18 rfl) (((SL.rd hS 901 rfl)).cellA (gi_some (i := 2) (by omega) (by omega)))) rfl fun a F => ?_
   refine rT 8 F rfl (by kernel_rfl) pq rfl hS (fun w hS => x_conv Tryz.underlying3 ⟨_, Tryz.underlying5⟩ (F.t 19 rfl) (w64 (by have := (hq0_2.gi 2).1; omega) (by have := (hq0_2.gi 2).2; omega))) rfl fun a F => ?_
   refine rT 9 F rfl (by kernel_rfl) pq rfl hS (fun w hS => x_bits (by simp) (F.t 16 rfl) (F.t 20 rfl) (or_i64 (hq0_2.gi 1).1 (hq0_2.gi 1).2 (hq0_2.gi 2).1 (hq0_2.gi 2).2)) rfl fun a F => ?_
   refine rT 10 F rfl (by kernel_rfl) pq rfl hS (fun w hS => x_assign (F.t 21 rfl)) rfl fun a F => ?_
   have hgn : 0 ≤ (gi rest 1 * 256 + gi rest 2) := by have := (hq0_2.gi 1).1; have := (hq0_2.gi 2).1; omega
   refine r_end (by kernel_rfl) ?_; clear hS
   refine hK7 _ _ (sr fun _ hK8 => la F rfl (x_move (F.t 4 rfl)) fun a F => la F rfl (x_leq (F.t 22 rfl) rfl) fun a F => la F rfl (x_move (F.t 23 rfl)) fun a F => ?_)
   refine split_bool F 24 rfl (fun hb24 => ?_) (fun hb24 => ?_)
   ·have hc24 := hb24; try simp only [bL] at hc24
    refine lgs F hb24 rfl (x_move (F.t 4 rfl)) fun a F => lgs F hb24 rfl (x_load1 ty27 (F.t 1 rfl) (blk_cell (H.at 1 rfl) 0 rfl)) fun a F => lgs F hb24 rfl (x_len_slice Tryz.underlying27 (F.t 26 rfl)) fun a F => lgs F hb24 rfl (x_sub (F.t 27 rfl) rfl (w64 (by omega) (by omega))) fun a F => lgs F hb24 rfl (x_leq (F.t 25 rfl) (F.t 28 rfl)) fun a F => la F rfl (x_pickT (F.t 24 rfl) hb24 (F.t 29 rfl)) fun a F => wn (hK8 _ _ ?_)
    refine wp_cond_split (F.t 30 rfl) (fun hc30 => ?_) (fun hc30 => ?_)
    ·have hk30_5 := hc30; try simp only [bL] at hc30
     refine wp_seq_k fun _ hK9 => ?_
     refine r_start [(1, .blk bb (.cells #[.slice A2 rest.length c2] 27 (0, 0))), (901, .rd_ (.int .u8) A2 rest c2 ok)] (by kernel_rfl) H fun H => ?_
     have hS : SL [(1, .blk bb (.cells #[.slice A2 rest.length c2] 27 (0, 0))), (901, .rd_ (.int .u8) A2 rest c2 ok)] _ := SL.of H (sub_cons (sub_cons (sub_nil _) 901 rfl) 1 rfl)
     refine rT 0 F rfl (by kernel_rfl) pq rfl hS (fun w hS => x_load1 ty27 (F.t 1 rfl) (blk_cell (SL.at_ hS 1 rfl) 0 rfl)) rfl fun a F => ?_
     refine rT 1 F rfl (by kernel_rfl) pq rfl hS (fun w hS => x_iaddr_A Tryz.underlying27 ty5 ((H.rd 901 rfl)) (F.t 31 rfl) rfl (by omega) (by omega) _) rfl fun a F => ?_
     refine rT 2 F rfl (by kernel_rfl) pq rfl hS (fun w hS => x_load1 ty5 (F.t 32 rfl) (((SL.rd hS 901 rfl)).cellA (gi_some (i := 0) (by omega) (by omega)))) rfl fun a F => ?_
     refine rT 3 F rfl (by kernel_rfl) pq rfl hS (fun w hS => x_conv Tryz.underlying3 ⟨_, Tryz.underlying5⟩ (F.t 33 rfl) (w64 (by have := (hq0_2.gi 0).1; omega) (by have := (hq0_2.gi 0).2; omega))) rfl fun a F => ?_
     refine rT 4 F rfl (by kernel_rfl) pq rfl hS (fun w hS => x_load1 ty27 (F.t 1 rfl) (blk_cell (SL.at_ hS 1 rfl) 0 rfl)) rfl fun a F => ?_
     refine rT 5 F rfl (by kernel_rfl) pq rfl hS (fun w hS => x_move (F.t 4 rfl)) rfl fun a F => ?_
     refine rT 6 F rfl (by kernel_rfl) pq rfl hS (fun w hS => x_add rfl (F.t 36 rfl) (w64 (by omega) (by omega))) rfl fun a F => ?_
     refine rT 7 F rfl (by kernel_rfl) pq rfl hS (fun w hS => x_slice_lh (E := (.int .u8)) Tryz.underlying27 ty5 (F.t 35 rfl) rfl (F.t 37 rfl) (by omega) (by omega) (by omega) ((H.rd 901 rfl)).1) rfl fun a F => ?_
     refine r_do 8 rfl (by kernel_rfl) rfl rfl ?_
     refine w_call F (x_enter Tryz.func73 (by kernel_rfl) rfl (by simp only [bM, F.t 38 rfl] <;> rfl)) (clone_calls _ ((Rd.drop ((Rd.take ((H.rd 901 rfl)) ((3 + (gi rest 1 * 256 + gi rest 2)).toNat))) (by rw [List.length_take]; omega : (Int.toNat 3) ≤ (rest.take ((3 + (gi rest 1 * 256 + gi rest 2)).toNat)).length))) (by rw [List.length_drop, List.length_take]; omega)) rfl rfl ?_
     rintro _ w ⟨vr30, rfl, hm_, hr_⟩; refine ⟨_, rfl, ?_⟩; clear F; intro a F; have H := Hp.rowOut H 30 hm_ hr_; obtain ⟨Ar30, cr30, rfl⟩ := (H.row 30 rfl).form
     refine aN (SL.of H (sub_cons (sub_cons (sub_nil _) 901 rfl) 1 rfl)) fun hS => ?_
     rw [show ((rest.take (3 + (gi rest 1 * 256 + gi rest 2)).toNat).drop (Int.toNat 3)) = ((gi rest 0, (rest.drop 3).take (gi rest 1 * 256 + gi rest 2).toNat) : Fld).2 by show _ = (rest.drop 3).take _; rw [List.drop_take]; congr 1; omega] at F
     rw [show ((rest.take (3 + (gi rest 1 * 256 + gi rest 2)).toNat).drop (Int.toNat 3)) = ((gi rest 0, (rest.drop 3).take (gi rest 1 * 256 + gi rest 2).toNat) : Fld).2 by show _ = (rest.drop 3).take _; rw [List.drop_take]; congr 1; omega] at H
     refine rT 9 F rfl (by kernel_rfl) pq rfl hS (fun w hS => x_buildS (cells := #[.int .i64 (gi rest 0), .slice Ar30 ((gi rest 0, (rest.drop 3).take (gi rest 1 * 256 + gi rest 2).toNat) : Fld).2.length cr30]) (places := #[(0, 1), (1, 1)]) Tryz.underlying57 ty57 (by kernel_rfl) (by simp only [bM, F.t 34 rfl, F.t 39 rfl] <;> rfl) rfl) rfl fun a F => ?_
     refine r_do 10 rfl (by kernel_rfl) rfl rfl ?_
     refine w_storeA 3 H ty57 rfl (F.t 3 rfl) (F.t 40 rfl) rfl (by simp [Value.cells, Value.oneCell']) rfl ?_
     clear H; intro w H
     refine aN (SL.of H (sub_cons (sub_cons (sub_nil _) 901 rfl) 1 rfl)) fun hS => ?_
     refine r_end (by kernel_rfl) ?_; clear hS
     refine hK9 _ _ ?_
     refine wp_region_lit ?_
     refine la F rfl (x_load1 ty27 (F.t 1 rfl) (blk_cell (H.at 1 rfl) 0 rfl)) fun a F => la F rfl (x_move (F.t 4 rfl)) fun a F => la F rfl (x_add rfl (F.t 42 rfl) (w64 (by omega) (by omega))) fun a F => la F rfl (x_slice_l (E := (.int .u8)) Tryz.underlying27 ty5 (F.t 41 rfl) (F.t 43 rfl) (by omega) (by omega) ((H.rd 901 rfl)).1) fun a F => ?_
     refine lp rfl ?_
     refine w_store 1 H ty27 rfl (F.t 1 rfl) (F.t 44 rfl) rfl (one1 rfl rfl) (Nat.le_refl 1) ?_
     clear H; intro w H
     have hj_0 : items rest = if ((gi rest 0, (rest.drop 3).take (gi rest 1 * 256 + gi rest 2).toNat) : Fld).1 = 0 then [((gi rest 0, (rest.drop 3).take (gi rest 1 * 256 + gi rest 2).toNat) : Fld)] else ((gi rest 0, (rest.drop 3).take (gi rest 1 * 256 + gi rest 2).toNat) : Fld) :: items (rest.drop (3 + (gi rest 1 * 256 + gi rest 2)).toNat) := by rw [items_some (cut_good hq0_2 hc24 hc30), show (3 + (gi rest 1 * 256 + gi rest 2)).toNat = 3 + (gi rest 1 * 256 + gi rest 2).toNat by omega]
     have hj_1 : ((gi rest 0, (rest.drop 3).take (gi rest 1 * 256 + gi rest 2).toNat) : Fld).1 ≠ 0 → (rest.drop (3 + (gi rest 1 * 256 + gi rest 2)).toNat).length < rest.length := fun _ => by rw [List.length_drop]; omega
     have hj_2 : Byt (rest.drop (3 + (gi rest 1 * 256 + gi rest 2)).toNat) := hq0_2.drop _
     have hj_3 := it_own H 30 rfl (own_cons (fun k hk h2 => H.sep 1 30 _ _ (by decide) rfl rfl k hk (.inl h2)) (own_cons (fun k hk => hk.elim) own_nil))
     have H := H.freeze 30 rfl (fun k => (Value.slice Ar30 ((gi rest 0, (rest.drop 3).take (gi rest 1 * 256 + gi rest 2).toNat) : Fld).2.length cr30).ownBlock = some k) (fun k => ⟨fun h => .inr h, fun h => h.resolve_left id⟩)
     have H := H.subrd 901 rfl 901 (Rd.drop (H.rd 901 rfl) (show (3 + (gi rest 1 * 256 + gi rest 2)).toNat ≤ rest.length by omega)) (fun _ h => h)
     refine wpList_nil ?_
     exact hJ11 _ _ ((gi rest 0, (rest.drop 3).take (gi rest 1 * 256 + gi rest 2).toNat) : Fld) (dropA A2 c2 (3 + (gi rest 1 * 256 + gi rest 2)).toNat 1) (rest.drop (3 + (gi rest 1 * 256 + gi rest 2)).toNat) (c2 - (3 + (gi rest 1 * 256 + gi rest 2)).toNat) Ar30 cr30 (fun k => (Value.slice Ar30 ((gi rest 0, (rest.drop 3).take (gi rest 1 * 256 + gi rest 2).toNat) : Fld).2.length cr30).ownBlock = some k) hj_0 hj_1 hj_2 hj_3 (((F.bare.add F 3 rfl).add F 1 rfl).add F 0 rfl) (H.sub _ (sub_cons (sub_cons (sub_cons (sub_cons (sub_cons (sub_nil _) 30 rfl) 3 rfl) 901 rfl) 1 rfl) 777 rfl))
    have hk30_6 := hc30; try simp only [bL] at hc30
    have hcut := cut_bad hq0_2 (.inr (by omega))
    have hj_0 := items_zero (by omega) hcut
    have hj_1 : ((0, []) : Fld).1 ≠ 0 → rest.length < rest.length := fun h => absurd rfl h
    have hj_2 : Byt rest := hq0_2
    have hj_3 : ∀ k, (fun _ => False : Nat → Prop) k → X.own k ∨ w0.heap.size ≤ k := fun k hk => hk.elim
    have H := H.rdnil 30 (.int .u8)
    refine wp_skip ?_
    exact hJ11 _ _ ((0, []) : Fld) A2 rest c2 none 0 (fun _ => False) hj_0 hj_1 hj_2 hj_3 (((F.bare.add F 3 rfl).add F 1 rfl).add F 0 rfl) (H.sub _ (sub_cons (sub_cons (sub_cons (sub_cons (sub_cons (sub_nil _) 30 rfl) 3 rfl) 901 rfl) 1 rfl) 777 rfl))
   have hc24 := hb24; try simp only [bL] at hc24
   have hcut := cut_bad hq0_2 (.inl (by omega))
   have hj_0 := items_zero (by omega) hcut
   have hj_1 : ((0, []) : Fld).1 ≠ 0 → rest.length < rest.length := fun h => absurd rfl h
   have hj_2 : Byt rest := hq0_2
   have hj_3 : ∀ k, (fun _ => False : Nat → Prop) k → X.own k ∨ w0.heap.size ≤ k := fun k hk => hk.elim
   have H := H.rdnil 30 (.int .u8)
   refine los F hb24 rfl fun a F => los F hb24 rfl fun a F => los F hb24 rfl fun a F => los F hb24 rfl fun a F => los F hb24 rfl fun a F => la F rfl (x_pickF (F.t 24 rfl) hb24 rfl) fun a F => wn (hK8 _ _ ?_)
   refine wp_cond_false (F.t 30 rfl) ?_
   refine wp_skip ?_
   exact hJ11 _ _ ((0, []) : Fld) A2 rest c2 none 0 (fun _ => False) hj_0 hj_1 hj_2 hj_3 (((F.bare.add F 3 rfl).add F 1 rfl).add F 0 rfl) (H.sub _ (sub_cons (sub_cons (sub_cons (sub_cons (sub_cons (sub_nil _) 30 rfl) 3 rfl) 901 rfl) 1 rfl) 777 rfl))
  have hk11_7 := hc11; try simp only [bL] at hc11
  have hcut := cut_few (bs := rest) (by omega)
  have hj_0 := items_zero (by omega) hcut
  have hj_1 : ((0, []) : Fld).1 ≠ 0 → rest.length < rest.length := fun h => absurd rfl h
  have hj_2 : Byt rest := hq0_2
  have hj_3 : ∀ k, (fun _ => False : Nat → Prop) k → X.own k ∨ w0.heap.size ≤ k := fun k hk => hk.elim
  have H := H.rdnil 30 (.int .u8)
  refine wp_skip ?_
  exact hJ11 _ _ ((0, []) : Fld) A2 rest c2 none 0 (fun _ => False) hj_0 hj_1 hj_2 hj_3 (((F.bare.add F 3 rfl).add F 1 rfl).add F 0 rfl) (H.sub _ (sub_cons (sub_cons (sub_cons (sub_cons (sub_cons (sub_nil _) 30 rfl) 3 rfl) 901 rfl) 1 rfl) 777 rfl))
 have hk7_8 := hc7; try simp only [bL] at hc7
 refine wp_exit ?_
 try simp only [Exit.then, Exit.inBlock]
 try simp only [if_true]
 rw [items_nil (by omega), List.append_nil] at hq0_1
 exact fin_end F (res0 rfl) ⟨_, X_, items bs, rfl, rfl, .inl (hq0_1 ▸ hq0_0), (grew_it H 777 rfl (own_cons (fun k hk h2 => H.sep 1 777 _ _ (by decide) rfl rfl k hk (.inl h2)) (own_cons (fun k hk => hk.elim) own_nil)) hq0_3)⟩
theorem dec_calls (w0 : World) {ok : Nat → Prop} {A : Option Addr} {bs : List Int} {c : Nat} (hrb : Rd (.int .u8) w0 ok A bs c) (hby : Byt bs) : Calls Tryz.prog 36 #[.slice A bs.length c] w0 fun e w' => ∃ v, e = .returned (.tuple #[v, .int .i64 (if (decR bs).isSome then 0 else 12)]) ∧ Mods (fun _ => False) w0 w' ∧ RowNew FE 57 w0 w' v ((decR bs).getD []) := by
 refine calls_marks Tryz.func36 rfl ?_
 have F := Fr.enter #[.slice A bs.length c] 22 (slotsOf [.slice A bs.length c] 0) (Nat.le_of_ble_eq_true rfl) (fun i v h => by have h2 := (get_slotsOf _ 0 i v h).2; simpa only [List.getElem?_toArray, Nat.sub_zero] using h2)
 have H := Hp.nil (fun _ => False) w0
 rw [Tryz.ntmps36]
 revert F; generalize (⟨(#[.slice A bs.length c] : Array Value) ++ Array.replicate (22 - (#[.slice A bs.length c] : Array Value).size) undef, []⟩ : Act) = a; intro F
 have H := H.arg 901 hrb.all (fun _ h => ⟨h, fun h => h⟩)
 refine sr fun _ hK1 => ?_
 refine lp rfl ?_
 refine w_alloc 2 F H rfl ty60 ?_
 clear F H; intro a w b2 F H
 refine lp rfl ?_
 refine w_alloc 3 F H rfl ty30 ?_
 clear F H; intro a w b3 F H
 refine wn (hK1 _ _ (sr fun _ hK2 => ?_))
 refine lp rfl ?_
 refine w_alloc 4 F H rfl ty60 ?_
 clear F H; intro a w b4 F H
 refine wn (hK2 _ _ ?_)
 refine wp_seq_k fun _ hK3 => ?_
 refine sr fun khK4 hK4 => la F rfl (x_move (F.t 0 rfl)) fun a F => ?_
 refine lp rfl ?_
 refine w_call F (x_enter Tryz.func72 (by kernel_rfl) rfl (by simp only [bM, F.t 6 rfl] <;> rfl)) (each_calls _ _ _ _) rfl rfl ?_
 rintro _ w ⟨b1, rfl, hm_, hb1, hc1⟩; refine ⟨_, rfl, ?_⟩; clear F; intro a F; have H := H.newBlk 1 hm_ hb1 hc1
 refine wn (hK4 _ _ (wp_block ?_))
 have H := H.row0 55 FE 57
 refine wp_range F H 100 101 (F.t 7 rfl) Tryz.func102 (by kernel_rfl) rfl ?_
 intro r l bm w hr hH0; clear H
 have hLI : (Asn.all [(1, .blk b1 (.cells #[.slice A bs.length c] 27 (0, 0))), (901, .rd_ (.int .u8) A bs c (fun k => k < w0.heap.size))]).holds w := (hH0.sub _ (sub_cons (sub_cons (sub_nil _) 901 rfl) 1 rfl)).asAll
 have hFD := F.defer [{ target := .collected bm, args := #[] }]
 refine Calls.mono (each1_tells w hby hLI l (fun (pre : List Fld) (X : Asn) => ∃ (Av : Option Addr) (cv : Nat) (okv : Nat → Prop), pre.length ≤ 200 ∧ (pre.all fun f => !decide (f.1 = 0)) = true ∧ X = Asn.all [(100, .blk l (.loop r)), (2, .blk b2 (.cells #[.slice none 0 0] 60 (0, 0))), (3, .blk b3 (.cells #[.int .i64 0] 30 (0, 0))), (4, .blk b4 (.cells #[.slice Av pre.length cv] 60 (0, 0))), (55, .row FE 57 (.slice Av pre.length cv) pre okv)]) (fun (pre2 : List Fld) (X : Asn) => ∃ (pre : List Fld) (x : Fld) (Av : Option Addr) (cv : Nat) (okv : Nat → Prop), pre2 = pre ++ [x] ∧ (x.1 = 0 ∨ pre.length = 200) ∧ X = Asn.all [(100, .blk l (.loop { r with state := .done, pending := some .ret })), (2, .blk b2 (.cells #[.slice none 0 0] 60 (0, 0))), (3, .blk b3 (.cells #[.int .i64 12] 30 (0, 0))), (4, .blk b4 (.cells #[.slice Av pre.length cv] 60 (0, 0))), (55, .row FE 57 (.slice Av pre.length cv) pre okv)]) (Asn.all [(100, .blk l (.loop r)), (2, .blk b2 (.cells #[.slice none 0 0] 60 (0, 0))), (3, .blk b3 (.cells #[.int .i64 0] 30 (0, 0))), (4, .blk b4 (.cells #[.slice none ([] : List Fld).length 0] 60 (0, 0))), (55, .row FE 57 (.slice none ([] : List Fld).length 0) [] (fun _ => False))]) (hH0.sub _ (sub_cons (sub_cons (sub_cons (sub_cons (sub_cons (sub_nil _) 55 rfl) 4 rfl) 3 rfl) 2 rfl) 100 rfl)).okAll (hH0.apart (sub_cons (sub_cons (sub_nil _) 901 rfl) 1 rfl) (sub_cons (sub_cons (sub_cons (sub_cons (sub_cons (sub_nil _) 55 rfl) 4 rfl) 3 rfl) 2 rfl) 100 rfl) (apart_cons rfl (apart_cons rfl (apart_nil _)))) (fun k hk h => hH0.apart (sub_cons (sub_cons (sub_cons (sub_cons (sub_cons (sub_nil _) 55 rfl) 4 rfl) 3 rfl) 2 rfl) 100 rfl) (sub_cons (sub_cons (sub_nil _) 901 rfl) 1 rfl) (apart_cons rfl (apart_cons rfl (apart_cons rfl (apart_cons rfl (apart_cons rfl (apart_nil _)))))) k h (.inr hk)) ?_ ⟨none, 0, fun _ => False, Nat.zero_le _, rfl, rfl⟩) ?_
 ·
  rintro pre x Xx w1 args rdY _ ⟨Av, cv, okv, hlen, htag, rfl⟩ hXok ⟨A', c', rfl, hrd⟩ hrdY
  refine round_walk (ll := 100) hXok.holds rfl hr ?_
  have H := Hp.ofAll hXok.holds
  have H := H.readable 900 hrd (fun k hk => (hrdY k hk).1) (fun i A hA k hk hk2 => (hrdY k hk2).2 ⟨i, A, hA, hk⟩)
  have F := F.round 8 (.agg #[.int .i64 x.1, .slice A' x.2.length c']) rfl
  generalize ({ tmps := _, defers := [] } : Act) = a at F ⊢
  have F : Fr 22 a [(8, .agg #[.int .i64 x.1, .slice A' x.2.length c']), (2, .pointer (some ⟨b2, 0, none⟩)), (3, .pointer (some ⟨b3, 0, none⟩)), (4, .pointer (some ⟨b4, 0, none⟩))] := ((((F.bare.add F 4 rfl).add F 3 rfl).add F 2 rfl).add F 8 rfl)
  refine region_in (by repeat (first | exact no_round | exact no_false | apply no_then | apply no_block)) rfl ?_
  refine lp rfl ?_
  refine w_alloc 5 F H rfl ty57 ?_
  clear F H; intro a w b5 F H
  refine lp rfl ?_
  refine w_storeA 5 H ty57 rfl (F.t 5 rfl) (F.t 8 rfl) rfl (by simp [Value.cells, Value.oneCell']) rfl ?_
  clear H; intro w H
  refine wpList_nil ?_
  try simp only [Exit.then, Exit.inBlock]
  refine begin_round H 100 rfl hr.state fun w H => ?_
  refine wpIn_block ?_
  refine wpIn_seq_k fun _ hK5 => ?_
  refine wpIn_seq_k fun _ hK6 => ?_
  refine region_in (by repeat (first | exact no_round | exact no_false | apply no_then | apply no_block)) rfl ?_
  refine la F rfl (x_faddr Tryz.underlying57 rfl ty3 (by decide) (F.t 5 rfl) rfl) fun a F => la F rfl (x_load1 ty3 (F.t 9 rfl) (blk_cell (H.at 5 rfl) 0 rfl)) fun a F => la F rfl (x_eql (F.t 10 rfl) rfl) fun a F => la F rfl (x_move (F.t 11 rfl)) fun a F => ?_
  refine split_bool F 12 rfl (fun hb12 => ?_) (fun hb12 => ?_)
  ·have hc12 := hb12; try simp only [bL] at hc12
   refine los F hb12 rfl fun a F => los F hb12 rfl fun a F => los F hb12 rfl fun a F => la F rfl (x_pickT (F.t 12 rfl) hb12 rfl) fun a F => wn (hK6 _ _ ?_)
   refine wpIn_cond_true (F.t 16 rfl) ?_
   refine wpIn_seq_k fun _ hK7 => ?_
   refine region_in (by repeat (first | exact no_round | exact no_false | apply no_then | apply no_block)) rfl ?_
   refine lp rfl ?_
   refine w_store 2 H ty60 rfl (F.t 2 rfl) rfl rfl (one1 rfl rfl) (by first | decide | exact Nat.le_of_ble_eq_true rfl) ?_
   clear H; intro w H
   refine lp rfl ?_
   refine w_store 3 H ty30 rfl (F.t 3 rfl) rfl rfl (one1 rfl rfl) (by first | decide | exact Nat.le_of_ble_eq_true rfl) ?_
   clear H; intro w H
   refine wn (hK7 _ _ ?_)
   refine wpIn_ret ?_
   try simp only [Exit.then, Exit.inBlock]
   refine end_jump H 100 rfl fun w H => ?_
   have hh := H.sub [(100, .blk l (.loop { r with state := .done, pending := some .ret })), (2, .blk b2 (.cells #[.slice none 0 0] 60 (0, 0))), (3, .blk b3 (.cells #[.int .i64 12] 30 (0, 0))), (4, .blk b4 (.cells #[.slice Av pre.length cv] 60 (0, 0))), (55, .row FE 57 (.slice Av pre.length cv) pre okv)] (sub_cons (sub_cons (sub_cons (sub_cons (sub_cons (sub_nil _) 55 rfl) 4 rfl) 3 rfl) 2 rfl) 100 rfl)
   refine ⟨false, _, rfl, ⟨pre, x, _, _, _, rfl, .inl hc12, rfl⟩, grew_of hh (rdin_cons (fun k h => h.elim) (rdin_cons (fun k h => h.elim) (rdin_cons (fun k h => h.elim) (rdin_cons (fun k h => h.elim) (rdin_cons (fun k h => .inr (.inl ⟨55, _, rfl, h⟩)) rdin_nil)))))⟩
  have hc12 := hb12; try simp only [bL] at hc12
  refine lgs F hb12 rfl (x_load1 ty60 (F.t 4 rfl) (blk_cell (H.at 4 rfl) 0 rfl)) fun a F => lgs F hb12 rfl (x_len_slice Tryz.underlying60 (F.t 13 rfl)) fun a F => lgs F hb12 rfl (x_eql (F.t 14 rfl) rfl) fun a F => la F rfl (x_pickF (F.t 12 rfl) hb12 (F.t 15 rfl)) fun a F => wn (hK6 _ _ ?_)
  refine wpIn_cond_split (F.t 16 rfl) (fun hc16 => ?_) (fun hc16 => ?_)
  ·have hk16_1 := hc16; try simp only [bL] at hc16
   refine wpIn_seq_k fun _ hK8 => ?_
   refine region_in (by repeat (first | exact no_round | exact no_false | apply no_then | apply no_block)) rfl ?_
   refine lp rfl ?_
   refine w_store 2 H ty60 rfl (F.t 2 rfl) rfl rfl (one1 rfl rfl) (by first | decide | exact Nat.le_of_ble_eq_true rfl) ?_
   clear H; intro w H
   refine lp rfl ?_
   refine w_store 3 H ty30 rfl (F.t 3 rfl) rfl rfl (one1 rfl rfl) (by first | decide | exact Nat.le_of_ble_eq_true rfl) ?_
   clear H; intro w H
   refine wn (hK8 _ _ ?_)
   refine wpIn_ret ?_
   try simp only [Exit.then, Exit.inBlock]
   refine end_jump H 100 rfl fun w H => ?_
   have hh := H.sub [(100, .blk l (.loop { r with state := .done, pending := some .ret })), (2, .blk b2 (.cells #[.slice none 0 0] 60 (0, 0))), (3, .blk b3 (.cells #[.int .i64 12] 30 (0, 0))), (4, .blk b4 (.cells #[.slice Av pre.length cv] 60 (0, 0))), (55, .row FE 57 (.slice Av pre.length cv) pre okv)] (sub_cons (sub_cons (sub_cons (sub_cons (sub_cons (sub_nil _) 55 rfl) 4 rfl) 3 rfl) 2 rfl) 100 rfl)
   refine ⟨false, _, rfl, ⟨pre, x, _, _, _, rfl, .inr (by omega), rfl⟩, grew_of hh (rdin_cons (fun k h => h.elim) (rdin_cons (fun k h => h.elim) (rdin_cons (fun k h => h.elim) (rdin_cons (fun k h => h.elim) (rdin_cons (fun k h => .inr (.inl ⟨55, _, rfl, h⟩)) rdin_nil)))))⟩
  have hk16_2 := hc16; try simp only [bL] at hc16
  refine wpIn_skip ?_
  refine hK5 _ _ ?_
  refine region_in (by repeat (first | exact no_round | exact no_false | apply no_then | apply no_block)) rfl ?_
  refine la F rfl (x_load1 ty60 (F.t 4 rfl) (blk_cell (H.at 4 rfl) 0 rfl)) fun a F => la F rfl (x_loadn ty57 (F.t 5 rfl) rfl (blk_whole (H.at 5 rfl))) fun a F => ?_
  refine lp rfl ?_
  refine w_litE 19 FE [x] #[.int .i64 x.1, .slice A' x.2.length c'] rdY F H rfl Tryz.underlying60 ty57 (by simp only [bM, F.t 18 rfl] <;> rfl) rfl (by decide) (by decide) (by kernel_rfl) (Elems.single (fld_mk (H.rd 900 rfl))) (fun k hk => ⟨900, _, rfl, hk⟩) ?_
  clear F H; intro a w b19 F H
  have hb19 : ∀ k, (Value.slice (some ⟨b19, 0, none⟩) [x].length [x].length).ownBlock = some k → _ := H.mine 19 _ rfl
  have H := H.freeze 19 rfl (fun k => rdY k ∨ (Value.slice (some ⟨b19, 0, none⟩) [x].length [x].length).ownBlock = some k) (fun k => Iff.rfl)
  refine lp rfl ?_
  refine w_append 55 19 (xs := pre) (ys := ([x])) F H rfl Tryz.underlying60 ty57 rfl rfl rfl rfl ((H.rd 19 rfl)) oI (F.t 17 rfl) (F.t 19 rfl) (by simp only [lN]; omega) (by simp only [lN, maxLen]; omega) (fun kb => okv kb ∨ (fun k => rdY k ∨ (Value.slice (some ⟨b19, 0, none⟩) [x].length [x].length).ownBlock = some k) kb) (fun w' v' h => h) (by rintro k_ (hk_ | hk_); exact .inl hk_; exact .inr hk_) ?_
  clear F H; intro a w v20 F H
  obtain ⟨A20, c20, rfl⟩ := (H.row 55 rfl).form
  refine lp rfl ?_
  refine w_store 4 H ty60 rfl (F.t 4 rfl) (F.t 20 rfl) rfl (one1 rfl rfl) (by first | decide | exact Nat.le_of_ble_eq_true rfl) ?_
  clear H; intro w H
  refine wpList_nil ?_
  try simp only [Exit.then, Exit.inBlock]
  refine end_next H 100 rfl hr fun w H => ?_
  have hh := H.sub [(100, .blk l (.loop r)), (2, .blk b2 (.cells #[.slice none 0 0] 60 (0, 0))), (3, .blk b3 (.cells #[.int .i64 0] 30 (0, 0))), (4, .blk b4 (.cells #[.slice A20 (pre ++ [x]).length c20] 60 (0, 0))), (55, .row FE 57 (.slice A20 (pre ++ [x]).length c20) (pre ++ [x]) (fun kb => okv kb ∨ (fun k => rdY k ∨ (Value.slice (some ⟨b19, 0, none⟩) [x].length [x].length).ownBlock = some k) kb))] (sub_cons (sub_cons (sub_cons (sub_cons (sub_cons (sub_nil _) 55 rfl) 4 rfl) 3 rfl) 2 rfl) 100 rfl)
  refine ⟨true, _, rfl, ⟨_, _, _, by simp only [List.length_append, List.length_cons, List.length_nil]; omega, by simp only [List.all_append, htag, List.all_cons, List.all_nil, decide_eq_false hc12]; rfl, rfl⟩, grew_of hh (rdin_cons (fun k h => h.elim) (rdin_cons (fun k h => h.elim) (rdin_cons (fun k h => h.elim) (rdin_cons (fun k h => h.elim) (rdin_cons (fun k h => by rcases h with h | h | h; exact .inr (.inl ⟨55, _, rfl, h⟩); exact .inr (.inr (.inl h)); rcases hb19 k h with h | h; exact .inl h; exact .inr (.inr (.inr h))) rdin_nil)))))⟩
 ·
  rintro e w' ⟨v_, X', xs_, rfl, rfl, hor, hG⟩
  have hnewB : ∀ k, OwnL [(100, .blk l (.loop r)), (2, .blk b2 (.cells #[.slice none 0 0] 60 (0, 0))), (3, .blk b3 (.cells #[.int .i64 0] 30 (0, 0))), (4, .blk b4 (.cells #[.slice none ([] : List Fld).length 0] 60 (0, 0))), (55, .row FE 57 (.slice none ([] : List Fld).length 0) [] (fun _ => False))] k → w0.heap.size ≤ k := fun k ⟨i, A, hA, hk⟩ => (hH0.mine i A ((sub_cons (sub_cons (sub_cons (sub_cons (sub_cons (sub_nil _) 55 rfl) 4 rfl) 3 rfl) 2 rfl) 100 rfl) i A hA) k hk).resolve_left (fun h => h)
  have hrdB : ∀ k, RdL [(100, .blk l (.loop r)), (2, .blk b2 (.cells #[.slice none 0 0] 60 (0, 0))), (3, .blk b3 (.cells #[.int .i64 0] 30 (0, 0))), (4, .blk b4 (.cells #[.slice none ([] : List Fld).length 0] 60 (0, 0))), (55, .row FE 57 (.slice none ([] : List Fld).length 0) [] (fun _ => False))] k → False := (rdin_cons (fun k h => h.elim) (rdin_cons (fun k h => h.elim) (rdin_cons (fun k h => h.elim) (rdin_cons (fun k h => h.elim) (rdin_cons (fun k h => h.elim) rdin_nil)))))
  rcases hor with ⟨Av, cv, okv, hlen, htag, rfl⟩ | ⟨p, hpre, pre, x, Av, cv, okv, rfl, hwhy, rfl⟩
  ·
   have hok : ∀ k, okv k → w0.heap.size ≤ k := fun k hk => by rcases hG.rd k ⟨55, _, rfl, hk⟩ with h | h | h | h; (· exact hnewB k h); (· exact (hrdB k h).elim); (· exact h.elim); (· exact Nat.le_trans hH0.mods.size h)
   have H := Hp.back hH0 (sub_cons (sub_cons (sub_cons (sub_cons (sub_cons (sub_nil _) 55 rfl) 4 rfl) 3 rfl) 2 rfl) 100 rfl) (sub_cons (sub_cons (sub_nil _) 901 rfl) 1 rfl) hG (fun k h => h.elim) [(1, .emp), (901, .emp)] (cover_cons rfl (cover_cons rfl (cover_nil _))) (emps_cons (emps_cons emps_nil)) (cover_cons rfl (cover_cons rfl (cover_cons rfl (cover_cons rfl (cover_cons rfl (cover_nil _)))))) (apart_cons rfl (apart_cons rfl (apart_nil _)))
   have H : Hp _ w0 w' [(101, .blk bm (.deferred (some []))), (100, .blk l (.loop r)), (2, .blk b2 (.cells #[.slice none 0 0] 60 (0, 0))), (3, .blk b3 (.cells #[.int .i64 0] 30 (0, 0))), (4, .blk b4 (.cells #[.slice Av (items bs).length cv] 60 (0, 0))), (55, .row FE 57 (.slice Av (items bs).length cv) (items bs) okv)] := H.sub _ (sub_cons (sub_cons (sub_cons (sub_cons (sub_cons (sub_cons (sub_nil _) 55 rfl) 4 rfl) 3 rfl) 2 rfl) 100 rfl) 101 rfl)
   refine range_next H 100 rfl (by rw [hr.state]; decide) hr.pending fun w H => ?_
   clear F; have F := hFD; revert F; generalize ({ tmps := a.tmps, defers := [{ target := .collected bm, args := #[] }] } : Act) = a; intro F
   try simp only [Exit.then, Exit.inBlock]
   refine hK3 _ _ (sr fun _ hK9 => la F rfl (x_load1 ty60 (F.t 4 rfl) (blk_cell (H.at 4 rfl) 0 rfl)) fun a F => ?_)
   refine lp rfl ?_
   refine w_store 2 H ty60 rfl (F.t 2 rfl) (F.t 21 rfl) rfl (one1 rfl rfl) (by first | decide | exact Nat.le_of_ble_eq_true rfl) ?_
   clear H; intro w H
   refine lp rfl ?_
   refine w_store 3 H ty30 rfl (F.t 3 rfl) rfl rfl (one1 rfl rfl) (by first | decide | exact Nat.le_of_ble_eq_true rfl) ?_
   clear H; intro w H
   refine wn (hK9 _ _ ?_)
   refine wp_ret ?_
   try simp only [Exit.then, Exit.inBlock]
   have hdec : decR bs = some (items bs) := dec_some htag hlen
   refine fin_retD F H 101 rfl fun w H => ⟨res2c F rfl rfl rfl (blk_cell (H.at 2 rfl) 0 rfl) (blk_cell (H.at 3 rfl) 0 rfl) ty60 ty30, .slice Av (items bs).length cv, by rw [hdec]; rfl, H.mods, by rw [hdec]; exact Hp.outNew H 55 rfl hok⟩
  ·
   have hok : ∀ k, okv k → w0.heap.size ≤ k := fun k hk => by rcases hG.rd k ⟨55, _, rfl, hk⟩ with h | h | h | h; (· exact hnewB k h); (· exact (hrdB k h).elim); (· exact h.elim); (· exact Nat.le_trans hH0.mods.size h)
   have H := Hp.back hH0 (sub_cons (sub_cons (sub_cons (sub_cons (sub_cons (sub_nil _) 55 rfl) 4 rfl) 3 rfl) 2 rfl) 100 rfl) (sub_cons (sub_cons (sub_nil _) 901 rfl) 1 rfl) hG (fun k h => h.elim) [(1, .emp), (901, .emp)] (cover_cons rfl (cover_cons rfl (cover_nil _))) (emps_cons (emps_cons emps_nil)) (cover_cons rfl (cover_cons rfl (cover_cons rfl (cover_cons rfl (cover_cons rfl (cover_nil _)))))) (apart_cons rfl (apart_cons rfl (apart_nil _)))
   have H : Hp _ w0 w' [(101, .blk bm (.deferred (some []))), (100, .blk l (.loop { r with state := .done, pending := some .ret })), (2, .blk b2 (.cells #[.slice none 0 0] 60 (0, 0))), (3, .blk b3 (.cells #[.int .i64 12] 30 (0, 0))), (4, .blk b4 (.cells #[.slice Av pre.length cv] 60 (0, 0))), (55, .row FE 57 (.slice Av pre.length cv) pre okv)] := H.sub _ (sub_cons (sub_cons (sub_cons (sub_cons (sub_cons (sub_cons (sub_nil _) 55 rfl) 4 rfl) 3 rfl) 2 rfl) 100 rfl) 101 rfl)
   refine range_jump H 100 rfl (by simp) rfl fun w H => ?_
   clear F; have F := hFD; revert F; generalize ({ tmps := a.tmps, defers := [{ target := .collected bm, args := #[] }] } : Act) = a; intro F
   refine wp_ret ?_
   try simp only [Exit.then, Exit.inBlock]
   have hdec : decR bs = none := dec_none hpre hwhy
   refine fin_retD F H 101 rfl fun w H => ⟨res2c F rfl rfl rfl (blk_cell (H.at 2 rfl) 0 rfl) (blk_cell (H.at 3 rfl) 0 rfl) ty60 ty30, .slice none 0 0, by rw [hdec]; rfl, H.mods, by rw [hdec]; exact RowNew.nil _ _ _ _⟩
theorem refDec_calls (w0 : World) {ok : Nat → Prop} {A : Option Addr} {bs : List Int} {c : Nat} (hrb : Rd (.int .u8) w0 ok A bs c) (hby : Byt bs) : Calls Tryz.prog 41 #[.slice A bs.length c] w0 fun e w' => ∃ v, e = .returned (.tuple #[v, .int .i64 (if (decR bs).isSome then 0 else 12)]) ∧ Mods (fun _ => False) w0 w' ∧ RowNew FE 57 w0 w' v ((decR bs).getD []) := by
 refine cow Tryz.func41 rfl Tryz.ntmps41 (Nat.le_of_ble_eq_true rfl) fun a F => ?_
 have H := Hp.nil (fun _ => False) w0
 have H := H.arg 901 hrb.all (fun _ h => ⟨h, fun h => h⟩)
 have hle := hrb.le; unfold maxLen at hle
 refine sr fun _ hK1 => la F rfl (x_assign rfl) fun a F => la F rfl (x_assign rfl) fun a F => wn (hK1 _ _ (sr fun _ hK2 => la F rfl (x_assign rfl) fun a F => ?_))
 have H := H.row0 4 FE 57
 refine wn (hK2 _ _ (sr fun _ hK3 => la F rfl (x_assign rfl) fun a F => wn (hK3 _ _ ?_)))
 refine wp_seq_k fun khK4 hK4 => ?_
 refine wp_block ?_
 refine wp_loop_ghost (fun n_ a w => ∃ j : Nat, ∃ pre : List Fld, ∃ Av : Option Addr, ∃ cv : Nat, ∃ okv : Nat → Prop, n_ = bs.length - j ∧ (j ≤ bs.length) ∧ (pre.length ≤ 200) ∧ ((pre.all fun f => !decide (f.1 = 0)) = true) ∧ (pre ++ items (bs.drop j) = items bs) ∧ (∀ k, okv k → w0.heap.size ≤ k) ∧ Fr 77 a [(0, .slice A bs.length c), (4, .slice Av pre.length cv), (5, .int .i64 (j : Int))] ∧ Hp (fun _ => False) w0 w [(901, .rd_ (.int .u8) A bs c (fun k => k < w0.heap.size)), (4, .row FE 57 (.slice Av pre.length cv) pre okv)]) (bs.length) ?_ ?_
 ·exact ⟨0, [], none, 0, (fun _ => False), rfl, by omega, by simp, rfl, rfl, fun k h => h.elim, (((F.bare.add F 5 rfl).add F 4 rfl).add F 0 rfl), H.sub _ (sub_cons (sub_cons (sub_nil _) 4 rfl) 901 rfl)⟩
 rintro _ a w ⟨j, pre, Av, cv, okv, rfl, hq0_0, hq0_1, hq0_2, hq0_3, hq0_4, F, H⟩
 refine wp_seq_k fun _ hK5 => ?_
 refine sr fun _ hK6 => la F rfl (x_move (F.t 5 rfl)) fun a F => la F rfl (x_move (F.t 0 rfl)) fun a F => la F rfl (x_len_slice Tryz.underlying27 (F.t 8 rfl)) fun a F => la F rfl (x_lss (F.t 7 rfl) (F.t 9 rfl)) fun a F => wn (hK6 _ _ ?_)
 refine wp_cond_split (F.t 10 rfl) (fun hc10 => ?_) (fun hc10 => ?_)
 ·have hk10_1 := hc10; try simp only [bL] at hc10
  refine wp_skip (hK5 _ _ (wp_block ?_))
  refine wp_seq_k fun _ hK7 => ?_
  refine sr fun _ hK8 => la F rfl (x_move (F.t 0 rfl)) fun a F => la F rfl (x_len_slice Tryz.underlying27 (F.t 11 rfl)) fun a F => la F rfl (x_move (F.t 5 rfl)) fun a F => la F rfl (x_sub (F.t 12 rfl) (F.t 13 rfl) (w64 (by omega) (by omega))) fun a F => la F rfl (x_lss (F.t 14 rfl) rfl) fun a F => wn (hK8 _ _ ?_)
  refine wp_cond_split (F.t 15 rfl) (fun hc15 => ?_) (fun hc15 => ?_)
  ·have hk15_2 := hc15; try simp only [bL] at hc15
   have hnone := ref_bad (by omega) hq0_3 (.inl (cut_few (by rw [List.length_drop]; omega)))
   refine sr fun _ hK9 => la F rfl (x_assign rfl) fun a F => la F rfl (x_assign rfl) fun a F => wn (hK9 _ _ ?_)
   refine wp_ret ?_
   try simp only [Exit.then, Exit.inBlock]
   exact fin_ret F (res2 F rfl rfl rfl) ⟨.slice none 0 0, by rw [hnone]; rfl, H.mods, by rw [hnone]; exact RowNew.nil _ _ _ _⟩
  have hk15_3 := hc15; try simp only [bL] at hc15
  refine wp_skip (hK7 _ _ ?_)
  refine wp_seq_k fun _ hK10 => ?_
  refine r_start [(901, .rd_ (.int .u8) A bs c (fun k => k < w0.heap.size))] (by kernel_rfl) H fun H => ?_
  have hS : SL [(901, .rd_ (.int .u8) A bs c (fun k => k < w0.heap.size))] _ := SL.of H (sub_cons (sub_nil _) 901 rfl)
  refine rT 0 F rfl (by kernel_rfl) pq rfl hS (fun w hS => x_move (F.t 0 rfl)) rfl fun a F => ?_
  refine rT 1 F rfl (by kernel_rfl) pq rfl hS (fun w hS => x_move (F.t 5 rfl)) rfl fun a F => ?_
  refine rT 2 F rfl (by kernel_rfl) pq rfl hS (fun w hS => x_add (F.t 17 rfl) rfl (w64 (by omega) (by omega))) rfl fun a F => ?_
  refine rT 3 F rfl (by kernel_rfl) pq rfl hS (fun w hS => x_iaddr_A Tryz.underlying27 ty5 ((H.rd 901 rfl)) (F.t 16 rfl) (F.t 18 rfl) (by omega) (by omega) _) rfl fun a F => ?_
  refine rT 4 F rfl (by kernel_rfl) pq rfl hS (fun w hS => x_load1 ty5 (F.t 19 rfl) (((SL.rd hS 901 rfl)).cellA (gi_some (i := (j : Int) + 1) (by omega) (by omega)))) rfl fun a F => ?_
  refine rT 5 F rfl (by kernel_rfl) pq rfl hS (fun w hS => x_conv Tryz.underlying3 ⟨_, Tryz.underlying5⟩ (F.t 20 rfl) (w64 (by have := (hby.gi ((j : Int) + 1)).1; omega) (by have := (hby.gi ((j : Int) + 1)).2; omega))) rfl fun a F => ?_
  refine rT 6 F rfl (by kernel_rfl) pq rfl hS (fun w hS => x_mul rfl (F.t 21 rfl) (w64 (by have := hby.gi ((j : Int) + 1); omega) (by have := hby.gi ((j : Int) + 1); omega))) rfl fun a F => ?_
  refine rT 7 F rfl (by kernel_rfl) pq rfl hS (fun w hS => x_move (F.t 0 rfl)) rfl fun a F => ?_
  refine rT 8 F rfl (by kernel_rfl) pq rfl hS (fun w hS => x_move (F.t 5 rfl)) rfl fun a F => ?_
  refine rT 9 F rfl (by kernel_rfl) pq rfl hS (fun w hS => x_add (F.t 24 rfl) rfl (w64 (by omega) (by omega))) rfl fun a F => ?_
  refine rT 10 F rfl (by kernel_rfl) pq rfl hS (fun w hS => x_iaddr_A Tryz.underlying27 ty5 ((H.rd 901 rfl)) (F.t 23 rfl) (F.t 25 rfl) (by omega) (by omega) _) rfl fun a F => ?_
  refine rT 11 F rfl (by kernel_rfl) pq rfl hS (fun w hS => x_load1 ty5 (F.t 26 rfl) (((SL.rd hS 901 rfl)).cellA (gi_some (i := (j : Int) + 2) (by omega) (by omega)))) rfl fun a F => ?_
  refine rT 12 F rfl (by kernel_rfl) pq rfl hS (fun w hS => x_conv Tryz.underlying3 ⟨_, Tryz.underlying5⟩ (F.t 27 rfl) (w64 (by have := (hby.gi ((j : Int) + 2)).1; omega) (by have := (hby.gi ((j : Int) + 2)).2; omega))) rfl fun a F => ?_
  refine rT 13 F rfl (by kernel_rfl) pq rfl hS (fun w hS => x_add (F.t 22 rfl) (F.t 28 rfl) (w64 (by have := hby.gi ((j : Int) + 1); have := hby.gi ((j : Int) + 2); omega) (by have := hby.gi ((j : Int) + 1); have := hby.gi ((j : Int) + 2); omega))) rfl fun a F => ?_
  refine rT 14 F rfl (by kernel_rfl) pq rfl hS (fun w hS => x_assign (F.t 29 rfl)) rfl fun a F => ?_
  refine r_end (by kernel_rfl) ?_; clear hS
  refine hK10 _ _ ?_
  refine wp_seq_k fun _ hK11 => ?_
  refine sr fun _ hK12 => ?_
  have hg1 := hby.gi ((j : Int) + 1); have hg2 := hby.gi ((j : Int) + 2)
  obtain ⟨n, hn⟩ : ∃ n : Nat, (256 * gi bs ((j : Int) + 1) + gi bs ((j : Int) + 2)) = (n : Int) := ⟨(256 * gi bs ((j : Int) + 1) + gi bs ((j : Int) + 2)).toNat, by omega⟩
  rw [hn] at F
  refine la F rfl (x_move (F.t 0 rfl)) fun a F => la F rfl (x_move (F.t 5 rfl)) fun a F => la F rfl (x_iaddr_A Tryz.underlying27 ty5 ((H.rd 901 rfl)) (F.t 30 rfl) (F.t 31 rfl) (by omega) (by omega) _) fun a F => la F rfl (x_load1 ty5 (F.t 32 rfl) (((H.rd 901 rfl)).cellA (gi_some (i := (j : Int)) (by omega) (by omega)))) fun a F => la F rfl (x_eql (F.t 33 rfl) rfl) fun a F => la F rfl (x_move (F.t 34 rfl)) fun a F => ?_
  refine split_bool F 35 rfl (fun hb35 => ?_) (fun hb35 => ?_)
  ·have hc35 := hb35; try simp only [bL] at hc35
   have hnone := ref_bad (by omega) hq0_3 (.inr (.inl (by rw [gi_drop (by omega), Int.add_zero]; exact hc35)))
   refine los F hb35 rfl fun a F => los F hb35 rfl fun a F => la F rfl (x_pickT (F.t 35 rfl) hb35 rfl) fun a F => la F rfl (x_move (F.t 38 rfl)) fun a F => lo F rfl fun a F => lo F rfl fun a F => lo F rfl fun a F => lo F rfl fun a F => ?_
   refine lo F rfl fun a F => lo F rfl fun a F => lo F rfl fun a F => la F rfl (x_pickT (F.t 39 rfl) rfl rfl) fun a F => la F rfl (x_move (F.t 47 rfl)) fun a F => lo F rfl fun a F => lo F rfl fun a F => lo F rfl fun a F => ?_
   refine la F rfl (x_pickT (F.t 48 rfl) rfl rfl) fun a F => wn (hK12 _ _ ?_)
   refine wp_cond_true (F.t 52 rfl) ?_
   refine sr fun _ hK13 => la F rfl (x_assign rfl) fun a F => la F rfl (x_assign rfl) fun a F => wn (hK13 _ _ ?_)
   refine wp_ret ?_
   try simp only [Exit.then, Exit.inBlock]
   exact fin_ret F (res2 F rfl rfl rfl) ⟨.slice none 0 0, by rw [hnone]; rfl, H.mods, by rw [hnone]; exact RowNew.nil _ _ _ _⟩
  have hc35 := hb35; try simp only [bL] at hc35
  refine lgs F hb35 rfl (x_move (F.t 6 rfl)) fun a F => lgs F hb35 rfl (x_gtr (F.t 36 rfl) rfl) fun a F => la F rfl (x_pickF (F.t 35 rfl) hb35 (F.t 37 rfl)) fun a F => la F rfl (x_move (F.t 38 rfl)) fun a F => ?_
  refine split_bool F 39 rfl (fun hb39 => ?_) (fun hb39 => ?_)
  ·have hc39 := hb39; try simp only [bL] at hc39
   have hnone := ref_bad (by omega) hq0_3 (.inl (ref_cut hby hn (.inl (by omega))))
   refine los F hb39 rfl fun a F => los F hb39 rfl fun a F => los F hb39 rfl fun a F => los F hb39 rfl fun a F => los F hb39 rfl fun a F => los F hb39 rfl fun a F => los F hb39 rfl fun a F => la F rfl (x_pickT (F.t 39 rfl) hb39 rfl) fun a F => ?_
   refine la F rfl (x_move (F.t 47 rfl)) fun a F => lo F rfl fun a F => lo F rfl fun a F => lo F rfl fun a F => la F rfl (x_pickT (F.t 48 rfl) rfl rfl) fun a F => wn (hK12 _ _ ?_)
   refine wp_cond_true (F.t 52 rfl) ?_
   refine sr fun _ hK14 => la F rfl (x_assign rfl) fun a F => la F rfl (x_assign rfl) fun a F => wn (hK14 _ _ ?_)
   refine wp_ret ?_
   try simp only [Exit.then, Exit.inBlock]
   exact fin_ret F (res2 F rfl rfl rfl) ⟨.slice none 0 0, by rw [hnone]; rfl, H.mods, by rw [hnone]; exact RowNew.nil _ _ _ _⟩
  have hc39 := hb39; try simp only [bL] at hc39
  refine lgs F hb39 rfl (x_move (F.t 6 rfl)) fun a F => lgs F hb39 rfl (x_move (F.t 0 rfl)) fun a F => lgs F hb39 rfl (x_len_slice Tryz.underlying27 (F.t 41 rfl)) fun a F => lgs F hb39 rfl (x_move (F.t 5 rfl)) fun a F => lgs F hb39 rfl (x_sub (F.t 42 rfl) (F.t 43 rfl) (w64 (by omega) (by omega))) fun a F => lgs F hb39 rfl (x_sub (F.t 44 rfl) rfl (w64 (by omega) (by omega))) fun a F => lgs F hb39 rfl (x_gtr (F.t 40 rfl) (F.t 45 rfl)) fun a F => la F rfl (x_pickF (F.t 39 rfl) hb39 (F.t 46 rfl)) fun a F => ?_
  refine la F rfl (x_move (F.t 47 rfl)) fun a F => ?_
  refine split_bool F 48 rfl (fun hb48 => ?_) (fun hb48 => ?_)
  ·have hc48 := hb48; try simp only [bL] at hc48
   have hnone := ref_bad (by omega) hq0_3 (.inl (ref_cut hby hn (.inr (by omega))))
   refine los F hb48 rfl fun a F => los F hb48 rfl fun a F => los F hb48 rfl fun a F => la F rfl (x_pickT (F.t 48 rfl) hb48 rfl) fun a F => wn (hK12 _ _ ?_)
   refine wp_cond_true (F.t 52 rfl) ?_
   refine sr fun _ hK15 => la F rfl (x_assign rfl) fun a F => la F rfl (x_assign rfl) fun a F => wn (hK15 _ _ ?_)
   refine wp_ret ?_
   try simp only [Exit.then, Exit.inBlock]
   exact fin_ret F (res2 F rfl rfl rfl) ⟨.slice none 0 0, by rw [hnone]; rfl, H.mods, by rw [hnone]; exact RowNew.nil _ _ _ _⟩
  have hc48 := hb48; try simp only [bL] at hc48
  refine lgs F hb48 rfl (x_move (F.t 4 rfl)) fun a F => lgs F hb48 rfl (x_len_slice Tryz.underlying60 (F.t 49 rfl)) fun a F => lgs F hb48 rfl (x_eql (F.t 50 rfl) rfl) fun a F => la F rfl (x_pickF (F.t 48 rfl) hb48 (F.t 51 rfl)) fun a F => wn (hK12 _ _ ?_)
  refine wp_cond_split (F.t 52 rfl) (fun hc52 => ?_) (fun hc52 => ?_)
  ·have hk52_4 := hc52; try simp only [bL] at hc52
   have hnone := ref_bad (by omega) hq0_3 (.inr (.inr (by omega)))
   refine sr fun _ hK16 => la F rfl (x_assign rfl) fun a F => la F rfl (x_assign rfl) fun a F => wn (hK16 _ _ ?_)
   refine wp_ret ?_
   try simp only [Exit.then, Exit.inBlock]
   exact fin_ret F (res2 F rfl rfl rfl) ⟨.slice none 0 0, by rw [hnone]; rfl, H.mods, by rw [hnone]; exact RowNew.nil _ _ _ _⟩
  have hk52_5 := hc52; try simp only [bL] at hc52
  refine wp_skip (hK11 _ _ ?_)
  refine wp_seq_k fun _ hK17 => ?_
  refine r_start [(901, .rd_ (.int .u8) A bs c (fun k => k < w0.heap.size))] (by kernel_rfl) H fun H => ?_
  have hS : SL [(901, .rd_ (.int .u8) A bs c (fun k => k < w0.heap.size))] _ := SL.of H (sub_cons (sub_nil _) 901 rfl)
  refine rT 0 F rfl (by kernel_rfl) pq rfl hS (fun w hS => x_move (F.t 4 rfl)) rfl fun a F => ?_
  refine rT 1 F rfl (by kernel_rfl) pq rfl hS (fun w hS => x_move (F.t 0 rfl)) rfl fun a F => ?_
  refine rT 2 F rfl (by kernel_rfl) pq rfl hS (fun w hS => x_move (F.t 5 rfl)) rfl fun a F => ?_
  refine rT 3 F rfl (by kernel_rfl) pq rfl hS (fun w hS => x_iaddr_A Tryz.underlying27 ty5 ((H.rd 901 rfl)) (F.t 54 rfl) (F.t 55 rfl) (by omega) (by omega) _) rfl fun a F => ?_
  refine rT 4 F rfl (by kernel_rfl) pq rfl hS (fun w hS => x_load1 ty5 (F.t 56 rfl) (((SL.rd hS 901 rfl)).cellA (gi_some (i := (j : Int)) (by omega) (by omega)))) rfl fun a F => ?_
  refine rT 5 F rfl (by kernel_rfl) pq rfl hS (fun w hS => x_conv Tryz.underlying3 ⟨_, Tryz.underlying5⟩ (F.t 57 rfl) (w64 (by have := (hby.gi (j : Int)).1; omega) (by have := (hby.gi (j : Int)).2; omega))) rfl fun a F => ?_
  refine rT 7 F rfl (by kernel_rfl) pq rfl hS (fun w hS => x_move (F.t 0 rfl)) rfl fun a F => ?_
  refine rT 8 F rfl (by kernel_rfl) pq rfl hS (fun w hS => x_move (F.t 5 rfl)) rfl fun a F => ?_
  refine rT 9 F rfl (by kernel_rfl) pq rfl hS (fun w hS => x_add (F.t 61 rfl) rfl (w64 (by omega) (by omega))) rfl fun a F => ?_
  refine rT 10 F rfl (by kernel_rfl) pq rfl hS (fun w hS => x_move (F.t 5 rfl)) rfl fun a F => ?_
  refine rT 11 F rfl (by kernel_rfl) pq rfl hS (fun w hS => x_add (F.t 63 rfl) rfl (w64 (by omega) (by omega))) rfl fun a F => ?_
  refine rT 12 F rfl (by kernel_rfl) pq rfl hS (fun w hS => x_move (F.t 6 rfl)) rfl fun a F => ?_
  refine rT 13 F rfl (by kernel_rfl) pq rfl hS (fun w hS => x_add (F.t 64 rfl) (F.t 65 rfl) (w64 (by omega) (by omega))) rfl fun a F => ?_
  refine rT 14 F rfl (by kernel_rfl) pq rfl hS (fun w hS => x_slice_lh (E := (.int .u8)) Tryz.underlying27 ty5 (F.t 60 rfl) (F.t 62 rfl) (F.t 66 rfl) (by omega) (by omega) (by omega) ((H.rd 901 rfl)).1) rfl fun a F => ?_
  refine r_do 6 rfl (by kernel_rfl) rfl rfl ?_
  refine w_lit0 (.int .u8) 59 F H rfl Tryz.underlying27 ty5 ?_
  clear F H; intro a w b59 F H
  refine aN (SL.of H (sub_cons (sub_nil _) 901 rfl)) fun hS => ?_
  refine r_do 15 rfl (by kernel_rfl) rfl rfl ?_
  refine w_append 59 901 (xs := ([])) (ys := ((bs.take ((((j : Int) + 3) + (n : Int)).toNat)).drop (((j : Int) + 3).toNat))) F H rfl Tryz.underlying27 ty5 rfl rfl rfl rfl ((Rd.drop ((Rd.take ((H.rd 901 rfl)) ((((j : Int) + 3) + (n : Int)).toNat))) (by rw [List.length_take]; omega : ((j : Int) + 3).toNat ≤ (bs.take ((((j : Int) + 3) + (n : Int)).toNat)).length))) oI (F.t 59 rfl) (F.t 67 rfl) (by rw [List.length_nil, List.length_drop, List.length_take]; omega) (by rw [List.length_nil, List.length_drop, List.length_take]; unfold maxLen; omega) (fun _ => False) (fun w' v' h => row_flat h _) (fun k_ hk_ => hk_.elim) ?_
  clear F H; intro a w v68 F H
  refine aN (SL.of H (sub_cons (sub_nil _) 901 rfl)) fun hS => ?_
  rw [show ((bs.take ((j : Int) + 3 + (n : Int)).toNat).drop ((j : Int) + 3).toNat) = ((bs.take (j + 3 + n)).drop (j + 3)) by rw [show ((j : Int) + 3 + (n : Int)).toNat = j + 3 + n by omega, show ((j : Int) + 3).toNat = j + 3 by omega]] at F
  rw [show ((bs.take ((j : Int) + 3 + (n : Int)).toNat).drop ((j : Int) + 3).toNat) = ((bs.take (j + 3 + n)).drop (j + 3)) by rw [show ((j : Int) + 3 + (n : Int)).toNat = j + 3 + n by omega, show ((j : Int) + 3).toNat = j + 3 by omega]] at H
  obtain ⟨A68, c68, rfl⟩ := (H.row 59 rfl).form
  have hb59 : ∀ k_, (Value.slice A68 (((gi bs (j : Int), ([] : List Int) ++ ((bs.take (j + 3 + n)).drop (j + 3))) : Fld).2).length c68).ownBlock = some k_ → w0.heap.size ≤ k_ := fun k_ h => (H.mine 59 _ rfl k_ h).resolve_left (fun h => h)
  have H := H.freeze 59 rfl (fun k_ => (Value.slice A68 (((gi bs (j : Int), ([] : List Int) ++ ((bs.take (j + 3 + n)).drop (j + 3))) : Fld).2).length c68).ownBlock = some k_) (fun k_ => ⟨fun h => .inr h, fun h => h.resolve_left id⟩)
  refine rT 16 F rfl (by kernel_rfl) pq rfl hS (fun w hS => x_buildS (cells := #[.int .i64 (gi bs (j : Int)), .slice A68 (((gi bs (j : Int), ([] : List Int) ++ ((bs.take (j + 3 + n)).drop (j + 3))) : Fld).2).length c68]) (places := #[(0, 1), (1, 1)]) Tryz.underlying57 ty57 (by kernel_rfl) (by simp only [bM, F.t 58 rfl, F.t 68 rfl] <;> rfl) rfl) rfl fun a F => ?_
  refine r_do 17 rfl (by kernel_rfl) rfl rfl ?_
  refine w_litE 70 FE [((gi bs (j : Int), ([] : List Int) ++ ((bs.take (j + 3 + n)).drop (j + 3))) : Fld)] #[.int .i64 (gi bs (j : Int)), .slice A68 (((gi bs (j : Int), ([] : List Int) ++ ((bs.take (j + 3 + n)).drop (j + 3))) : Fld).2).length c68] (fun k_ => (Value.slice A68 (((gi bs (j : Int), ([] : List Int) ++ ((bs.take (j + 3 + n)).drop (j + 3))) : Fld).2).length c68).ownBlock = some k_) F H rfl Tryz.underlying60 ty57 (by simp only [bM, F.t 69 rfl] <;> rfl) rfl (by decide) (by decide) (by kernel_rfl) (Elems.single (fld_mk (f := ((gi bs (j : Int), ([] : List Int) ++ ((bs.take (j + 3 + n)).drop (j + 3))) : Fld)) (H.rd 59 rfl))) (fun k hk => ⟨59, _, rfl, hk⟩) ?_
  clear F H; intro a w b70 F H
  refine aN (SL.of H (sub_cons (sub_nil _) 901 rfl)) fun hS => ?_
  have hb70 : ∀ k_, (Value.slice (some ⟨b70, 0, none⟩) [((gi bs (j : Int), ([] : List Int) ++ ((bs.take (j + 3 + n)).drop (j + 3))) : Fld)].length [((gi bs (j : Int), ([] : List Int) ++ ((bs.take (j + 3 + n)).drop (j + 3))) : Fld)].length).ownBlock = some k_ → w0.heap.size ≤ k_ := fun k_ h => (H.mine 70 _ rfl k_ h).resolve_left (fun h => h)
  have H := H.freeze 70 rfl (fun k_ => (fun k_ => (Value.slice A68 (((gi bs (j : Int), ([] : List Int) ++ ((bs.take (j + 3 + n)).drop (j + 3))) : Fld).2).length c68).ownBlock = some k_) k_ ∨ (Value.slice (some ⟨b70, 0, none⟩) [((gi bs (j : Int), ([] : List Int) ++ ((bs.take (j + 3 + n)).drop (j + 3))) : Fld)].length [((gi bs (j : Int), ([] : List Int) ++ ((bs.take (j + 3 + n)).drop (j + 3))) : Fld)].length).ownBlock = some k_) (fun k_ => Iff.rfl)
  refine r_do 18 rfl (by kernel_rfl) rfl rfl ?_
  refine w_append 4 70 (xs := pre) (ys := ([((gi bs (j : Int), ([] : List Int) ++ ((bs.take (j + 3 + n)).drop (j + 3))) : Fld)])) F H rfl Tryz.underlying60 ty57 rfl rfl rfl rfl ((H.rd 70 rfl)) oI (F.t 53 rfl) (F.t 70 rfl) (by simp only [lN]; omega) (by simp only [lN, maxLen]; omega) (fun kb => okv kb ∨ (fun k_ => (fun k_ => (Value.slice A68 (((gi bs (j : Int), ([] : List Int) ++ ((bs.take (j + 3 + n)).drop (j + 3))) : Fld).2).length c68).ownBlock = some k_) k_ ∨ (Value.slice (some ⟨b70, 0, none⟩) [((gi bs (j : Int), ([] : List Int) ++ ((bs.take (j + 3 + n)).drop (j + 3))) : Fld)].length [((gi bs (j : Int), ([] : List Int) ++ ((bs.take (j + 3 + n)).drop (j + 3))) : Fld)].length).ownBlock = some k_) kb) (fun w' v' h => h) (by rintro k_ (hk_ | hk_); exact .inl hk_; exact .inr hk_) ?_
  clear F H; intro a w v71 F H
  refine aN (SL.of H (sub_cons (sub_nil _) 901 rfl)) fun hS => ?_
  obtain ⟨A71, c71, rfl⟩ := (H.row 4 rfl).form
  have hok2 : ∀ k_, (fun kb => okv kb ∨ (fun k_ => (fun k_ => (Value.slice A68 (((gi bs (j : Int), ([] : List Int) ++ ((bs.take (j + 3 + n)).drop (j + 3))) : Fld).2).length c68).ownBlock = some k_) k_ ∨ (Value.slice (some ⟨b70, 0, none⟩) [((gi bs (j : Int), ([] : List Int) ++ ((bs.take (j + 3 + n)).drop (j + 3))) : Fld)].length [((gi bs (j : Int), ([] : List Int) ++ ((bs.take (j + 3 + n)).drop (j + 3))) : Fld)].length).ownBlock = some k_) kb) k_ → w0.heap.size ≤ k_ := by rintro k_ (h | h | h); exact hq0_4 k_ h; exact hb59 k_ h; exact hb70 k_ h
  refine rT 19 F rfl (by kernel_rfl) pq rfl hS (fun w hS => x_assign (F.t 71 rfl)) rfl fun a F => ?_
  refine r_end (by kernel_rfl) ?_; clear hS
  refine hK17 _ _ ?_
  refine wp_region_lit ?_
  refine la F rfl (x_move (F.t 5 rfl)) fun a F => la F rfl (x_add (F.t 72 rfl) rfl (w64 (by omega) (by omega))) fun a F => la F rfl (x_move (F.t 6 rfl)) fun a F => la F rfl (x_add (F.t 73 rfl) (F.t 74 rfl) (w64 (by omega) (by omega))) fun a F => la F rfl (x_assign (F.t 75 rfl)) fun a F => ?_
  refine wpList_nil ?_
  have hFs : Fr 77 a [(0, .slice A bs.length c), (4, .slice A71 (pre ++ [((gi bs (j : Int), ([] : List Int) ++ ((bs.take (j + 3 + n)).drop (j + 3))) : Fld)]).length c71), (5, .int .i64 ((j : Int) + 3 + (n : Int)))] := (((F.bare.add F 5 rfl).add F 4 rfl).add F 0 rfl)
  rw [show ((j : Int) + 3 + (n : Int)) = ((j + 3 + n : Nat) : Int) by omega] at hFs
  exact ⟨_, by omega, ⟨j + 3 + n, pre ++ [((gi bs (j : Int), ([] : List Int) ++ ((bs.take (j + 3 + n)).drop (j + 3))) : Fld)], A71, c71, _, rfl, by omega, by simp only [List.length_append, List.length_cons, List.length_nil]; omega, all_snoc hq0_2 hc35, items_step (ref_step hby (by omega) hn (by omega) (by omega)) hc35 hq0_3, hok2, hFs, H.sub _ (sub_cons (sub_cons (sub_nil _) 4 rfl) 901 rfl)⟩⟩
 have hk10_6 := hc10; try simp only [bL] at hc10
 obtain rfl : j = bs.length := by omega
 have hend : pre = items bs := by rw [← hq0_3, List.drop_length, items_nil rfl, List.append_nil]
 subst hend
 have hsome := dec_some hq0_2 hq0_1
 refine wp_exit ?_
 refine hK4 _ _ (sr fun _ hK18 => la F rfl (x_move (F.t 4 rfl)) fun a F => la F rfl (x_assign (F.t 76 rfl)) fun a F => la F rfl (x_assign rfl) fun a F => wn (hK18 _ _ ?_))
 refine wp_ret ?_
 try simp only [Exit.then, Exit.inBlock]
 exact fin_ret F (res2 F rfl rfl rfl) ⟨_, by rw [hsome]; rfl, H.mods, by rw [hsome]; exact Hp.outNew H 4 rfl hq0_4⟩
end Go.Proofs.YtiiklnghnifmjaaGreatDoor.Cod
