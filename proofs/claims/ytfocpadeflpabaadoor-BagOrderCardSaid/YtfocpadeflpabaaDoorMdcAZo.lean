/- A message's bytes decoded, walked. -/
import Derived.Test.YtfocpadeflpabaaDoorDecAZo
import Derived.Test.YtfocpadeflpabaaDoorMsgAZo
import Derived.Test.YtfocpadeflpabaaDoorMdcDZo
set_option linter.unusedVariables false
set_option linter.unusedSimpArgs false
namespace Go.Proofs.YtfocpadeflpabaaDoor.Act
open Go.RowKit Go.Proofs.YtfocpadeflpabaaDoor.Sx Go.Proofs.YtfocpadeflpabaaDoor.Cod Go.Proofs.YtfocpadeflpabaaDoor.Num
theorem decB_calls (w0 : World) {ok : Nat → Prop} {A : Option Addr} {bs : List Int} {c : Nat} (hr : Rd (.int .u8) w0 ok A (bodyM bs) c) (hby : Byte (bodyM bs)) : Calls Tryd.prog 33 #[.slice A (bodyM bs).length c] w0 fun e w' => ∃ v, e = .returned (.tuple #[v, .int .i64 (if (decR (bodyM bs)).isSome then 0 else 12)]) ∧ Mods (fun _ => False) w0 w' ∧ RowNew FE 71 w0 w' v ((decR (bodyM bs)).getD []) := dec_calls w0 hr hby
set_option maxRecDepth 100000 in
set_option maxHeartbeats 1000000 in
theorem decM_calls (w0 : World) (hL : LibAt true w0) {ok : Nat → Prop} {A : Option Addr} {bs : List Int} {c : Nat} (hrb : Rd (.int .u8) w0 ok A bs c) (hby : Byte bs) : Calls Tryd.prog 25 #[.slice A bs.length c] w0 fun e w' => ∃ (m : MessageD) (An : Option Addr) (cn : Nat) (Ac : Option Addr) (cc : Nat) (okm : Nat → Prop) (g : Int), e = .returned (.tuple #[.agg #[.int .i64 m.kind, .int .i64 m.src, .int .i64 m.dst, .int .i64 m.tx, .slice An m.nodes.length cn, .slice Ac m.changes.length cc], .int .i64 g]) ∧ Mods (fun _ => False) w0 w' ∧ Rd (.int .i64) w' okm An m.nodes cn ∧ Rd ChgE w' okm Ac m.changes cc ∧ (∀ k, okm k → w0.heap.size ≤ k ∧ k < w'.heap.size) ∧ DecM bs m g := by
 refine calls_of_wp Tryd.func25 rfl ?_
 have hF := Fr.enter #[.slice A bs.length c] 135 (slotsOf [.slice A bs.length c] 0) (Nat.le_of_ble_eq_true rfl) (fun i v h => by have h2 := (get_slotsOf _ 0 i v h).2; simpa only [List.getElem?_toArray, Nat.sub_zero] using h2)
 have hH := Hp.nil (fun _ => False) w0
 rw [Tryd.ntmps25]
 revert hF; generalize (⟨(#[.slice A bs.length c] : Array Value) ++ Array.replicate (135 - (#[.slice A bs.length c] : Array Value).size) undef, []⟩ : Act) = a; intro hF
 have hH := hH.arg 901 hrb.all (fun _ h => ⟨h, fun h => h⟩)
 have hleb := hrb.le; unfold maxLen at hleb
 have hH := hH.libN 990 hL
 refine wp_seq_k fun khK1 hK1 => ?_
 refine wp_region_lit ?_
 refine wpList_plain rfl fun K hK => ?_
 refine w_alloc 2 hF hH rfl ty30 ?_
 clear hF hH; intro a w b2 hF hH
 refine hK _ _ ?_; clear hK K
 refine l_at hF rfl rfl rfl (x_assign rfl) ?_; clear hF; intro a hF
 refine wpList_nil ?_
 refine hK1 _ _ ?_
 refine wp_seq_k fun khK2 hK2 => ?_
 refine wp_region_lit ?_
 refine l_at hF rfl rfl rfl (x_move (hF.tmp 0 rfl)) ?_; clear hF; intro a hF
 refine l_at hF rfl rfl rfl (x_move (hF.tmp 0 rfl)) ?_; clear hF; intro a hF
 refine l_at hF rfl rfl rfl (x_len_slice Tryd.underlying53 (hF.tmp 23 rfl)) ?_; clear hF; intro a hF
 refine l_at hF rfl rfl rfl (x_sub (hF.tmp 24 rfl) rfl (w64 (by omega) (by omega))) ?_; clear hF; intro a hF
 refine l_at hF rfl rfl rfl (x_max2 (hF.tmp 25 rfl) rfl) ?_; clear hF; intro a hF
 refine l_at hF rfl rfl rfl (x_slice_h Tryd.underlying53 ty5 (hF.tmp 22 rfl) (hF.tmp 26 rfl) (by unfold mx; split <;> omega) (by unfold mx; split <;> omega) ((hH.rd 901 rfl)).1) ?_; clear hF; intro a hF
 refine wpList_plain rfl fun K hK => ?_
 refine w_call hF (x_enter Tryd.func33 (by kernel_rfl) rfl (by simp only [List.map_toArray, List.map_cons, List.map_nil, hF.tmp 27 rfl] <;> rfl)) (decB_calls (bs := bs) _ ((Rd.take ((hH.rd 901 rfl)) ((mx ((bs.length : Int) - 4) 0).toNat))) ((hby : Byte _).take _)) rfl rfl ?_
 rintro _ w ⟨vr21, rfl, hm_, okr21, hr_, hf_, ho21_⟩; refine ⟨_, rfl, ?_⟩; clear hF; intro a hF; have hH := hH.newRow 21 hm_ hr_ hf_ ho21_; obtain ⟨Ar21, cr21, rfl⟩ := (hH.row 21 rfl).form
 refine hK _ _ ?_; clear hK K
 refine l_at hF rfl rfl rfl (x_move (hF.tmp 28 rfl)) ?_; clear hF; intro a hF
 refine l_at hF rfl rfl rfl (x_extract (hF.tmp 21 rfl) rfl) ?_; clear hF; intro a hF
 refine l_at hF rfl rfl rfl (x_extract (hF.tmp 21 rfl) rfl) ?_; clear hF; intro a hF
 refine l_at hF rfl rfl rfl (x_assign (hF.tmp 29 rfl)) ?_; clear hF; intro a hF
 refine l_at hF rfl rfl rfl (x_assign (hF.tmp 30 rfl)) ?_; clear hF; intro a hF
 obtain ⟨dl, hdl⟩ : ∃ dl, dl = (decR (bodyM bs)).getD [] := ⟨_, rfl⟩
 rw [← hdl] at hF hH
 have hsh : short dl = true := by rw [hdl]; exact dl_short ((hby : Byte _).take _)
 have hbf : ∀ f ∈ dl, Byte f.2 := by rw [hdl]; exact dl_byte ((hby : Byte _).take _)
 have hH := hH.freeze 21 rfl (fun kb => okr21 kb ∨ (Value.slice Ar21 dl.length cr21).ownBlock = some kb) (fun kb => Iff.rfl)
 refine wpList_nil ?_
 refine hK2 _ _ ?_
 refine wp_seq_k fun khK3 hK3 => ?_
 refine wp_region_lit ?_
 refine l_at hF rfl rfl rfl (x_move (hF.tmp 4 rfl)) ?_; clear hF; intro a hF
 refine wpList_plain rfl fun K hK => ?_
 refine w_call hF (x_enter Tryd.func34 (by kernel_rfl) rfl (by simp only [List.map_toArray, List.map_cons, List.map_nil, hF.tmp 32 rfl] <;> rfl)) (dfind_calls _ 1 ((hH.rd 21 rfl)) hsh) rfl rfl ?_
 rintro _ w ⟨vr33, rfl, hm_, hr_⟩; refine ⟨_, rfl, ?_⟩; clear hF; intro a hF; have hH := Hp.rowOut hH 33 hm_ hr_; obtain ⟨Ar33, cr33, rfl⟩ := (hH.row 33 rfl).form
 refine hK _ _ ?_; clear hK K
 refine l_at hF rfl rfl rfl (x_move (hF.tmp 33 rfl)) ?_; clear hF; intro a hF
 refine l_at hF rfl rfl rfl (x_extract (hF.tmp 31 rfl) rfl) ?_; clear hF; intro a hF
 refine l_at hF rfl rfl rfl (x_extract (hF.tmp 31 rfl) rfl) ?_; clear hF; intro a hF
 refine l_at hF rfl rfl rfl (x_assign (hF.tmp 34 rfl)) ?_; clear hF; intro a hF
 have hH := hH.freeze 33 rfl (fun kb => (Value.slice Ar33 (fnd dl 1).length cr33).ownBlock = some kb) (fun kb => ⟨fun h => .inr h, fun h => h.resolve_left id⟩)
 refine l_at hF rfl rfl rfl (x_assign (hF.tmp 35 rfl)) ?_; clear hF; intro a hF
 refine wpList_nil ?_
 refine hK3 _ _ ?_
 refine wp_seq_k fun khK4 hK4 => ?_
 refine wp_region_lit ?_
 refine l_at hF rfl rfl rfl (x_move (hF.tmp 4 rfl)) ?_; clear hF; intro a hF
 refine wpList_plain rfl fun K hK => ?_
 refine w_call hF (x_enter Tryd.func34 (by kernel_rfl) rfl (by simp only [List.map_toArray, List.map_cons, List.map_nil, hF.tmp 37 rfl] <;> rfl)) (dfind_calls _ 2 ((hH.rd 21 rfl)) hsh) rfl rfl ?_
 rintro _ w ⟨vr38, rfl, hm_, hr_⟩; refine ⟨_, rfl, ?_⟩; clear hF; intro a hF; have hH := Hp.rowOut hH 38 hm_ hr_; obtain ⟨Ar38, cr38, rfl⟩ := (hH.row 38 rfl).form
 refine hK _ _ ?_; clear hK K
 refine l_at hF rfl rfl rfl (x_move (hF.tmp 38 rfl)) ?_; clear hF; intro a hF
 refine l_at hF rfl rfl rfl (x_extract (hF.tmp 36 rfl) rfl) ?_; clear hF; intro a hF
 refine l_at hF rfl rfl rfl (x_extract (hF.tmp 36 rfl) rfl) ?_; clear hF; intro a hF
 refine l_at hF rfl rfl rfl (x_assign (hF.tmp 39 rfl)) ?_; clear hF; intro a hF
 refine l_at hF rfl rfl rfl (x_assign (hF.tmp 40 rfl)) ?_; clear hF; intro a hF
 refine wpList_nil ?_
 refine hK4 _ _ ?_
 refine wp_seq_k fun khK5 hK5 => ?_
 refine wp_region_lit ?_
 refine l_at hF rfl rfl rfl (x_move (hF.tmp 8 rfl)) ?_; clear hF; intro a hF
 refine wpList_plain rfl fun K hK => ?_
 refine w_call hF (x_enter Tryd.func35 (by kernel_rfl) rfl (by simp only [List.map_toArray, List.map_cons, List.map_nil, hF.tmp 42 rfl] <;> rfl)) (num_calls _ (Row.rd (ok' := fun k_ => (fun _ => False) k_ ∨ (.slice Ar38 (fnd dl 2).length cr38 : Value).ownBlock = some k_) (hH.row 38 rfl) (fun _ hk_ _ => .inl hk_) (fun _ hk_ => .inr hk_)) (fnd_byte hbf 2)) rfl rfl ?_
 rintro _ w ⟨rfl, hm_⟩; refine ⟨_, rfl, ?_⟩; clear hF; intro a hF; have hH := hH.same hm_
 refine hK _ _ ?_; clear hK K
 refine l_at hF rfl rfl rfl (x_move (hF.tmp 43 rfl)) ?_; clear hF; intro a hF
 refine l_at hF rfl rfl rfl (x_extract (hF.tmp 41 rfl) rfl) ?_; clear hF; intro a hF
 refine l_at hF rfl rfl rfl (x_extract (hF.tmp 41 rfl) rfl) ?_; clear hF; intro a hF
 refine l_at hF rfl rfl rfl (x_assign (hF.tmp 44 rfl)) ?_; clear hF; intro a hF
 refine l_at hF rfl rfl rfl (x_assign (hF.tmp 45 rfl)) ?_; clear hF; intro a hF
 refine wpList_nil ?_
 refine hK5 _ _ ?_
 refine wp_seq_k fun khK6 hK6 => ?_
 refine wp_seq_k fun khK7 hK7 => ?_
 refine wp_region_lit ?_
 refine l_at hF rfl rfl rfl (x_move (hF.tmp 5 rfl)) ?_; clear hF; intro a hF
 refine l_at hF rfl rfl rfl (x_neq (hF.tmp 46 rfl) rfl) ?_; clear hF; intro a hF
 refine l_at hF rfl rfl rfl (x_move (hF.tmp 47 rfl)) ?_; clear hF; intro a hF
 refine split_bool hF 48 rfl (fun hb48 => ?_) (fun hb48 => ?_)
 ·have hc48 := hb48; try simp only [Bool.or_eq_true, Bool.and_eq_true, Bool.or_eq_false_iff, Bool.and_eq_false_iff, Bool.not_eq_true', Bool.not_eq_false', decide_eq_true_eq, decide_eq_false_iff_not, Bool.not_true, Bool.not_false] at hc48
  have hz : NoM bs := noM_none (by cases hd : decR (bodyM bs) with | none => rfl | some l => rw [hd] at hc48; exact absurd rfl hc48)
  refine l_offg hF ((wanted_of hF rfl rfl rfl rfl).trans (by rw [hb48]; rfl)) rfl rfl ?_; clear hF; intro a hF
  refine l_offg hF ((wanted_of hF rfl rfl rfl rfl).trans (by rw [hb48]; rfl)) rfl rfl ?_; clear hF; intro a hF
  refine l_offg hF ((wanted_of hF rfl rfl rfl rfl).trans (by rw [hb48]; rfl)) rfl rfl ?_; clear hF; intro a hF
  refine l_at hF rfl rfl rfl (x_pickT (hF.tmp 48 rfl) hb48 rfl) ?_; clear hF; intro a hF
  refine l_at hF rfl rfl rfl (x_move (hF.tmp 52 rfl)) ?_; clear hF; intro a hF
  refine l_offg hF ((wanted_of hF rfl rfl rfl rfl).trans rfl) rfl rfl ?_; clear hF; intro a hF
  refine l_offg hF ((wanted_of hF rfl rfl rfl rfl).trans rfl) rfl rfl ?_; clear hF; intro a hF
  refine l_at hF rfl rfl rfl (x_pickT (hF.tmp 53 rfl) rfl rfl) ?_; clear hF; intro a hF
  refine l_at hF rfl rfl rfl (x_move (hF.tmp 56 rfl)) ?_; clear hF; intro a hF
  refine l_offg hF ((wanted_of hF rfl rfl rfl rfl).trans rfl) rfl rfl ?_; clear hF; intro a hF
  refine l_offg hF ((wanted_of hF rfl rfl rfl rfl).trans rfl) rfl rfl ?_; clear hF; intro a hF
  refine l_at hF rfl rfl rfl (x_pickT (hF.tmp 57 rfl) rfl rfl) ?_; clear hF; intro a hF
  refine wpList_nil ?_
  refine hK7 _ _ ?_
  refine wp_cond_true (hF.tmp 60 rfl) ?_
  refine wp_seq_k fun khK8 hK8 => ?_
  refine wp_region_lit ?_
  refine l_at hF rfl rfl rfl (x_buildS (cells := #[.int .i64 0, .int .i64 0, .int .i64 0, .int .i64 0, .slice none 0 0, .slice none 0 0]) (places := #[(0, 1), (1, 1), (2, 1), (3, 1), (4, 1), (5, 1)]) Tryd.underlying30 ty30 (by kernel_rfl) Array.map_empty rfl) ?_; clear hF; intro a hF
  refine wpList_plain rfl fun K hK => ?_
  refine w_storeA 2 hH ty30 rfl (hF.tmp 2 rfl) (hF.tmp 61 rfl) rfl (by simp [Value.cells, Value.oneCell']) rfl ?_
  clear hH; intro w hH
  refine hK _ _ ?_; clear hK K
  refine l_at hF rfl rfl rfl (x_assign rfl) ?_; clear hF; intro a hF
  refine wpList_nil ?_
  refine hK8 _ _ ?_
  refine wp_ret ?_
  try simp only [Exit.then, Exit.inBlock]
  exact fin_ret hF (resct hF rfl rfl rfl (hH.at 2 rfl) ty30 rfl) ⟨⟨0, 0, 0, 0, [], []⟩, none, 0, none, 0, (fun _ => False), 161, rfl, hH.mods, Rd.nil _ _ _, Rd.nil _ _ _, (fun k h => h.elim), DecM.no hz⟩
 ·have hc48 := hb48; try simp only [Bool.or_eq_true, Bool.and_eq_true, Bool.or_eq_false_iff, Bool.and_eq_false_iff, Bool.not_eq_true', Bool.not_eq_false', decide_eq_true_eq, decide_eq_false_iff_not, Bool.not_true, Bool.not_false] at hc48
  have hdec : decR (bodyM bs) = some dl := by rw [hdl]; cases hd : decR (bodyM bs) with | some l => rfl | none => rw [hd] at hc48; exact absurd hc48 (by decide)
  have hfew := dl_few ((hby : Byte _).take _) hdec
  refine l_atg hF ((wanted_of hF rfl rfl rfl rfl).trans (by rw [hb48]; rfl)) rfl rfl (x_move (hF.tmp 6 rfl)) ?_; clear hF; intro a hF
  refine l_atg hF ((wanted_of hF rfl rfl rfl rfl).trans (by rw [hb48]; rfl)) rfl rfl (x_len_slice Tryd.underlying53 (hF.tmp 49 rfl)) ?_; clear hF; intro a hF
  refine l_atg hF ((wanted_of hF rfl rfl rfl rfl).trans (by rw [hb48]; rfl)) rfl rfl (x_neq (hF.tmp 50 rfl) rfl) ?_; clear hF; intro a hF
  refine l_at hF rfl rfl rfl (x_pickF (hF.tmp 48 rfl) hb48 (hF.tmp 51 rfl)) ?_; clear hF; intro a hF
  refine l_at hF rfl rfl rfl (x_move (hF.tmp 52 rfl)) ?_; clear hF; intro a hF
  refine split_bool hF 53 rfl (fun hb53 => ?_) (fun hb53 => ?_)
  ·have hc53 := hb53; try simp only [Bool.or_eq_true, Bool.and_eq_true, Bool.or_eq_false_iff, Bool.and_eq_false_iff, Bool.not_eq_true', Bool.not_eq_false', decide_eq_true_eq, decide_eq_false_iff_not, Bool.not_true, Bool.not_false] at hc53
   have hz : NoM bs := noM_head hdec (fun h => hc53 h.1)
   refine l_offg hF ((wanted_of hF rfl rfl rfl rfl).trans (by rw [hb53]; rfl)) rfl rfl ?_; clear hF; intro a hF
   refine l_offg hF ((wanted_of hF rfl rfl rfl rfl).trans (by rw [hb53]; rfl)) rfl rfl ?_; clear hF; intro a hF
   refine l_at hF rfl rfl rfl (x_pickT (hF.tmp 53 rfl) hb53 rfl) ?_; clear hF; intro a hF
   refine l_at hF rfl rfl rfl (x_move (hF.tmp 56 rfl)) ?_; clear hF; intro a hF
   refine l_offg hF ((wanted_of hF rfl rfl rfl rfl).trans rfl) rfl rfl ?_; clear hF; intro a hF
   refine l_offg hF ((wanted_of hF rfl rfl rfl rfl).trans rfl) rfl rfl ?_; clear hF; intro a hF
   refine l_at hF rfl rfl rfl (x_pickT (hF.tmp 57 rfl) rfl rfl) ?_; clear hF; intro a hF
   refine wpList_nil ?_
   refine hK7 _ _ ?_
   refine wp_cond_true (hF.tmp 60 rfl) ?_
   refine wp_seq_k fun khK9 hK9 => ?_
   refine wp_region_lit ?_
   refine l_at hF rfl rfl rfl (x_buildS (cells := #[.int .i64 0, .int .i64 0, .int .i64 0, .int .i64 0, .slice none 0 0, .slice none 0 0]) (places := #[(0, 1), (1, 1), (2, 1), (3, 1), (4, 1), (5, 1)]) Tryd.underlying30 ty30 (by kernel_rfl) Array.map_empty rfl) ?_; clear hF; intro a hF
   refine wpList_plain rfl fun K hK => ?_
   refine w_storeA 2 hH ty30 rfl (hF.tmp 2 rfl) (hF.tmp 61 rfl) rfl (by simp [Value.cells, Value.oneCell']) rfl ?_
   clear hH; intro w hH
   refine hK _ _ ?_; clear hK K
   refine l_at hF rfl rfl rfl (x_assign rfl) ?_; clear hF; intro a hF
   refine wpList_nil ?_
   refine hK9 _ _ ?_
   refine wp_ret ?_
   try simp only [Exit.then, Exit.inBlock]
   exact fin_ret hF (resct hF rfl rfl rfl (hH.at 2 rfl) ty30 rfl) ⟨⟨0, 0, 0, 0, [], []⟩, none, 0, none, 0, (fun _ => False), 161, rfl, hH.mods, Rd.nil _ _ _, Rd.nil _ _ _, (fun k h => h.elim), DecM.no hz⟩
  ·have hc53 := hb53; try simp only [Bool.or_eq_true, Bool.and_eq_true, Bool.or_eq_false_iff, Bool.and_eq_false_iff, Bool.not_eq_true', Bool.not_eq_false', decide_eq_true_eq, decide_eq_false_iff_not, Bool.not_true, Bool.not_false] at hc53
   have hl1 : ((fnd dl 1).length : Int) = 3 := hc53
   refine l_atg hF ((wanted_of hF rfl rfl rfl rfl).trans (by rw [hb53]; rfl)) rfl rfl (x_move (hF.tmp 11 rfl)) ?_; clear hF; intro a hF
   refine l_atg hF ((wanted_of hF rfl rfl rfl rfl).trans (by rw [hb53]; rfl)) rfl rfl (x_not (hF.tmp 54 rfl)) ?_; clear hF; intro a hF
   refine l_at hF rfl rfl rfl (x_pickF (hF.tmp 53 rfl) hb53 (hF.tmp 55 rfl)) ?_; clear hF; intro a hF
   refine l_at hF rfl rfl rfl (x_move (hF.tmp 56 rfl)) ?_; clear hF; intro a hF
   refine split_bool hF 57 rfl (fun hb57 => ?_) (fun hb57 => ?_)
   ·have hc57 := hb57; try simp only [Bool.or_eq_true, Bool.and_eq_true, Bool.or_eq_false_iff, Bool.and_eq_false_iff, Bool.not_eq_true', Bool.not_eq_false', decide_eq_true_eq, decide_eq_false_iff_not, Bool.not_true, Bool.not_false] at hc57
    have hz : NoM bs := noM_head hdec (fun h => by rw [h.2.1] at hc57; exact absurd hc57 (by decide))
    refine l_offg hF ((wanted_of hF rfl rfl rfl rfl).trans (by rw [hb57]; rfl)) rfl rfl ?_; clear hF; intro a hF
    refine l_offg hF ((wanted_of hF rfl rfl rfl rfl).trans (by rw [hb57]; rfl)) rfl rfl ?_; clear hF; intro a hF
    refine l_at hF rfl rfl rfl (x_pickT (hF.tmp 57 rfl) hb57 rfl) ?_; clear hF; intro a hF
    refine wpList_nil ?_
    refine hK7 _ _ ?_
    refine wp_cond_true (hF.tmp 60 rfl) ?_
    refine wp_seq_k fun khK10 hK10 => ?_
    refine wp_region_lit ?_
    refine l_at hF rfl rfl rfl (x_buildS (cells := #[.int .i64 0, .int .i64 0, .int .i64 0, .int .i64 0, .slice none 0 0, .slice none 0 0]) (places := #[(0, 1), (1, 1), (2, 1), (3, 1), (4, 1), (5, 1)]) Tryd.underlying30 ty30 (by kernel_rfl) Array.map_empty rfl) ?_; clear hF; intro a hF
    refine wpList_plain rfl fun K hK => ?_
    refine w_storeA 2 hH ty30 rfl (hF.tmp 2 rfl) (hF.tmp 61 rfl) rfl (by simp [Value.cells, Value.oneCell']) rfl ?_
    clear hH; intro w hH
    refine hK _ _ ?_; clear hK K
    refine l_at hF rfl rfl rfl (x_assign rfl) ?_; clear hF; intro a hF
    refine wpList_nil ?_
    refine hK10 _ _ ?_
    refine wp_ret ?_
    try simp only [Exit.then, Exit.inBlock]
    exact fin_ret hF (resct hF rfl rfl rfl (hH.at 2 rfl) ty30 rfl) ⟨⟨0, 0, 0, 0, [], []⟩, none, 0, none, 0, (fun _ => False), 161, rfl, hH.mods, Rd.nil _ _ _, Rd.nil _ _ _, (fun k h => h.elim), DecM.no hz⟩
   ·have hc57 := hb57; try simp only [Bool.or_eq_true, Bool.and_eq_true, Bool.or_eq_false_iff, Bool.and_eq_false_iff, Bool.not_eq_true', Bool.not_eq_false', decide_eq_true_eq, decide_eq_false_iff_not, Bool.not_true, Bool.not_false] at hc57
    refine l_atg hF ((wanted_of hF rfl rfl rfl rfl).trans (by rw [hb57]; rfl)) rfl rfl (x_move (hF.tmp 10 rfl)) ?_; clear hF; intro a hF
    refine l_atg hF ((wanted_of hF rfl rfl rfl rfl).trans (by rw [hb57]; rfl)) rfl rfl (x_gtr (hF.tmp 58 rfl) rfl) ?_; clear hF; intro a hF
    refine l_at hF rfl rfl rfl (x_pickF (hF.tmp 57 rfl) hb57 (hF.tmp 59 rfl)) ?_; clear hF; intro a hF
    refine wpList_nil ?_
    refine hK7 _ _ ?_
    refine wp_cond_split (hF.tmp 60 rfl) (fun hc60 => ?_) (fun hc60 => ?_)
    ·have hk60_1 := hc60; try simp only [Bool.or_eq_true, Bool.and_eq_true, Bool.or_eq_false_iff, Bool.and_eq_false_iff, Bool.not_eq_true', Bool.not_eq_false', decide_eq_true_eq, decide_eq_false_iff_not, Bool.not_true, Bool.not_false] at hc60
     have hz : NoM bs := noM_head hdec (fun h => h.2.2 hc60)
     refine wp_seq_k fun khK11 hK11 => ?_
     refine wp_region_lit ?_
     refine l_at hF rfl rfl rfl (x_buildS (cells := #[.int .i64 0, .int .i64 0, .int .i64 0, .int .i64 0, .slice none 0 0, .slice none 0 0]) (places := #[(0, 1), (1, 1), (2, 1), (3, 1), (4, 1), (5, 1)]) Tryd.underlying30 ty30 (by kernel_rfl) Array.map_empty rfl) ?_; clear hF; intro a hF
     refine wpList_plain rfl fun K hK => ?_
     refine w_storeA 2 hH ty30 rfl (hF.tmp 2 rfl) (hF.tmp 61 rfl) rfl (by simp [Value.cells, Value.oneCell']) rfl ?_
     clear hH; intro w hH
     refine hK _ _ ?_; clear hK K
     refine l_at hF rfl rfl rfl (x_assign rfl) ?_; clear hF; intro a hF
     refine wpList_nil ?_
     refine hK11 _ _ ?_
     refine wp_ret ?_
     try simp only [Exit.then, Exit.inBlock]
     exact fin_ret hF (resct hF rfl rfl rfl (hH.at 2 rfl) ty30 rfl) ⟨⟨0, 0, 0, 0, [], []⟩, none, 0, none, 0, (fun _ => False), 161, rfl, hH.mods, Rd.nil _ _ _, Rd.nil _ _ _, (fun k h => h.elim), DecM.no hz⟩
    ·have hk60_2 := hc60; try simp only [Bool.or_eq_true, Bool.and_eq_true, Bool.or_eq_false_iff, Bool.and_eq_false_iff, Bool.not_eq_true', Bool.not_eq_false', decide_eq_true_eq, decide_eq_false_iff_not, Bool.not_true, Bool.not_false] at hc60
     refine wp_skip ?_
     refine hK6 _ _ ?_
     refine wp_seq_k fun khK12 hK12 => ?_
     refine r_start [(901, .rd_ (.int .u8) A bs c (fun k => k < w0.heap.size)), (21, .rd_ FE Ar21 dl cr21 (fun kb => okr21 kb ∨ (Value.slice Ar21 dl.length cr21).ownBlock = some kb)), (33, .rd_ (.int .u8) Ar33 (fnd dl 1) cr33 (fun kb => (Value.slice Ar33 (fnd dl 1).length cr33).ownBlock = some kb)), (2, .blk b2 (.cells #[.int .i64 0, .int .i64 0, .int .i64 0, .int .i64 0, .slice none 0 0, .slice none 0 0] 30 (0, 0)))] (by kernel_rfl) hH fun hH => ?_
     have hS : SL [(901, .rd_ (.int .u8) A bs c (fun k => k < w0.heap.size)), (21, .rd_ FE Ar21 dl cr21 (fun kb => okr21 kb ∨ (Value.slice Ar21 dl.length cr21).ownBlock = some kb)), (33, .rd_ (.int .u8) Ar33 (fnd dl 1) cr33 (fun kb => (Value.slice Ar33 (fnd dl 1).length cr33).ownBlock = some kb)), (2, .blk b2 (.cells #[.int .i64 0, .int .i64 0, .int .i64 0, .int .i64 0, .slice none 0 0, .slice none 0 0] 30 (0, 0)))] _ := SL.of hH (sub_cons (sub_cons (sub_cons (sub_cons (sub_nil _) 2 rfl) 33 rfl) 21 rfl) 901 rfl)
     refine r_take 0 hF rfl rfl rfl (by kernel_rfl) (by kernel_rfl) (by kernel_rfl) (fun _ _ _ h => h) rfl hS (fun w hS => x_move (hF.tmp 6 rfl)) rfl ?_; clear hF; intro a hF
     refine r_take 1 hF rfl rfl rfl (by kernel_rfl) (by kernel_rfl) (by kernel_rfl) (fun _ _ _ h => h) rfl hS (fun w hS => x_iaddr_A Tryd.underlying53 ty5 ((hH.rd 33 rfl)) (hF.tmp 62 rfl) rfl (by omega) (by omega) _) rfl ?_; clear hF; intro a hF
     refine r_take 2 hF rfl rfl rfl (by kernel_rfl) (by kernel_rfl) (by kernel_rfl) (fun _ _ _ h => h) rfl hS (fun w hS => x_load1 ty5 (hF.tmp 63 rfl) (((SL.rd hS 33 rfl)).cellA (gi_some (i := 0) (by omega) (by omega)))) rfl ?_; clear hF; intro a hF
     refine r_take 3 hF rfl rfl rfl (by kernel_rfl) (by kernel_rfl) (by kernel_rfl) (fun _ _ _ h => h) rfl hS (fun w hS => x_conv Tryd.underlying26 ⟨_, Tryd.underlying5⟩ (hF.tmp 64 rfl) (w64 (by have := ((fnd_byte hbf 1 : Byte _).gi 0); omega) (by have := ((fnd_byte hbf 1 : Byte _).gi 0); omega))) rfl ?_; clear hF; intro a hF
     refine r_take 4 hF rfl rfl rfl (by kernel_rfl) (by kernel_rfl) (by kernel_rfl) (fun _ _ _ h => h) rfl hS (fun w hS => x_move (hF.tmp 6 rfl)) rfl ?_; clear hF; intro a hF
     refine r_take 5 hF rfl rfl rfl (by kernel_rfl) (by kernel_rfl) (by kernel_rfl) (fun _ _ _ h => h) rfl hS (fun w hS => x_iaddr_A Tryd.underlying53 ty5 ((hH.rd 33 rfl)) (hF.tmp 66 rfl) rfl (by omega) (by omega) _) rfl ?_; clear hF; intro a hF
     refine r_take 6 hF rfl rfl rfl (by kernel_rfl) (by kernel_rfl) (by kernel_rfl) (fun _ _ _ h => h) rfl hS (fun w hS => x_load1 ty5 (hF.tmp 67 rfl) (((SL.rd hS 33 rfl)).cellA (gi_some (i := 1) (by omega) (by omega)))) rfl ?_; clear hF; intro a hF
     refine r_take 7 hF rfl rfl rfl (by kernel_rfl) (by kernel_rfl) (by kernel_rfl) (fun _ _ _ h => h) rfl hS (fun w hS => x_conv Tryd.underlying3 ⟨_, Tryd.underlying5⟩ (hF.tmp 68 rfl) (w64 (by have := ((fnd_byte hbf 1 : Byte _).gi 1); omega) (by have := ((fnd_byte hbf 1 : Byte _).gi 1); omega))) rfl ?_; clear hF; intro a hF
     refine r_take 8 hF rfl rfl rfl (by kernel_rfl) (by kernel_rfl) (by kernel_rfl) (fun _ _ _ h => h) rfl hS (fun w hS => x_move (hF.tmp 6 rfl)) rfl ?_; clear hF; intro a hF
     refine r_take 9 hF rfl rfl rfl (by kernel_rfl) (by kernel_rfl) (by kernel_rfl) (fun _ _ _ h => h) rfl hS (fun w hS => x_iaddr_A Tryd.underlying53 ty5 ((hH.rd 33 rfl)) (hF.tmp 70 rfl) rfl (by omega) (by omega) _) rfl ?_; clear hF; intro a hF
     refine r_take 10 hF rfl rfl rfl (by kernel_rfl) (by kernel_rfl) (by kernel_rfl) (fun _ _ _ h => h) rfl hS (fun w hS => x_load1 ty5 (hF.tmp 71 rfl) (((SL.rd hS 33 rfl)).cellA (gi_some (i := 2) (by omega) (by omega)))) rfl ?_; clear hF; intro a hF
     refine r_take 11 hF rfl rfl rfl (by kernel_rfl) (by kernel_rfl) (by kernel_rfl) (fun _ _ _ h => h) rfl hS (fun w hS => x_conv Tryd.underlying3 ⟨_, Tryd.underlying5⟩ (hF.tmp 72 rfl) (w64 (by have := ((fnd_byte hbf 1 : Byte _).gi 2); omega) (by have := ((fnd_byte hbf 1 : Byte _).gi 2); omega))) rfl ?_; clear hF; intro a hF
     refine r_take 12 hF rfl rfl rfl (by kernel_rfl) (by kernel_rfl) (by kernel_rfl) (fun _ _ _ h => h) rfl hS (fun w hS => x_move (hF.tmp 10 rfl)) rfl ?_; clear hF; intro a hF
     refine r_take 13 hF rfl rfl rfl (by kernel_rfl) (by kernel_rfl) (by kernel_rfl) (fun _ _ _ h => h) rfl hS (fun w hS => x_conv Tryd.underlying3 ⟨_, Tryd.underlying64⟩ (hF.tmp 74 rfl) (w64 (by have := numV_range (fnd_byte hbf 2); omega) (by have := numV_range (fnd_byte hbf 2); omega))) rfl ?_; clear hF; intro a hF
     refine r_take 14 hF rfl rfl rfl (by kernel_rfl) (by kernel_rfl) (by kernel_rfl) (fun _ _ _ h => h) rfl hS (fun w hS => x_buildS (cells := #[.int .i64 (gi (fnd dl 1) 0), .int .i64 (gi (fnd dl 1) 1), .int .i64 (gi (fnd dl 1) 2), .int .i64 (numV (fnd dl 2)), .slice none 0 0, .slice none 0 0]) (places := #[(0, 1), (1, 1), (2, 1), (3, 1), (4, 1), (5, 1)]) Tryd.underlying30 ty30 (by kernel_rfl) (by simp only [List.map_toArray, List.map_cons, List.map_nil, hF.tmp 65 rfl, hF.tmp 69 rfl, hF.tmp 73 rfl, hF.tmp 75 rfl] <;> rfl) rfl) rfl ?_; clear hF; intro a hF
     refine r_do 15 rfl (by kernel_rfl) rfl rfl ?_
     refine w_alloc 12 hF hH rfl ty30 ?_
     clear hF hH; intro a w b12 hF hH
     clear hS; have hS : SL _ _ := SL.of hH (sub_cons (sub_cons (sub_cons (sub_cons (sub_nil _) 2 rfl) 33 rfl) 21 rfl) 901 rfl); refine ⟨hS, ?_⟩
     refine r_do 16 rfl (by kernel_rfl) rfl rfl ?_
     refine w_storeA 12 hH ty30 rfl (hF.tmp 12 rfl) (hF.tmp 76 rfl) rfl (by simp [Value.cells, Value.oneCell']) rfl ?_
     clear hH; intro w hH
     clear hS; have hS : SL _ _ := SL.of hH (sub_cons (sub_cons (sub_cons (sub_cons (sub_nil _) 2 rfl) 33 rfl) 21 rfl) 901 rfl); refine ⟨hS, ?_⟩
     refine r_end (by kernel_rfl) ?_; clear hS
     refine hK12 _ _ ?_
     refine wp_seq_k fun khK13 hK13 => ?_
     refine wp_seq_k fun khK14 hK14 => ?_
     refine wp_region_lit ?_
     have hH := hH.row0 60 (Rep.int .i64) 3
     have hH := hH.row0 61 ChgE 69
     refine l_at hF rfl rfl rfl (x_move (hF.tmp 4 rfl)) ?_; clear hF; intro a hF
     refine l_at hF rfl rfl rfl (x_len_slice Tryd.underlying73 (hF.tmp 77 rfl)) ?_; clear hF; intro a hF
     refine l_at hF rfl rfl rfl (x_move rfl) ?_; clear hF; intro a hF
     refine wpList_nil ?_
     refine hK14 _ _ ?_
     refine wp_block ?_
     refine wp_loop_ghost (fun n_ a w => ∃ k : Nat, ∃ An : Option Addr, ∃ cn : Nat, ∃ ns : List Int, ∃ Ac : Option Addr, ∃ cc : Nat, ∃ cs : List ChangeD, ∃ okc : Nat → Prop, n_ = dl.length - k ∧ (k ≤ dl.length) ∧ (MInv dl k ns cs) ∧ (Byte ns) ∧ (∀ c ∈ cs, ChangeB c) ∧ (ns.length ≤ 2000 * k) ∧ (cs.length ≤ k) ∧ (∀ kb, okc kb → w0.heap.size ≤ kb) ∧ Fr 135 a [(0, .slice A bs.length c), (2, .pointer (some ⟨b2, 0, none⟩)), (12, .pointer (some ⟨b12, 0, none⟩)), (77, .slice Ar21 dl.length cr21), (78, .int .i64 (dl.length : Int)), (79, .int .i64 (k : Int))] ∧ Hp (fun _ => False) w0 w [(901, .rd_ (.int .u8) A bs c (fun k => k < w0.heap.size)), (990, .lib true), (2, .blk b2 (.cells #[.int .i64 0, .int .i64 0, .int .i64 0, .int .i64 0, .slice none 0 0, .slice none 0 0] 30 (0, 0))), (21, .rd_ FE Ar21 dl cr21 (fun kb => okr21 kb ∨ (Value.slice Ar21 dl.length cr21).ownBlock = some kb)), (33, .rd_ (.int .u8) Ar33 (fnd dl 1) cr33 (fun kb => (Value.slice Ar33 (fnd dl 1).length cr33).ownBlock = some kb)), (38, .row (.int .u8) 5 (.slice Ar38 (fnd dl 2).length cr38) (fnd dl 2) (fun _ => False)), (12, .blk b12 (.cells #[.int .i64 (gi (fnd dl 1) 0), .int .i64 (gi (fnd dl 1) 1), .int .i64 (gi (fnd dl 1) 2), .int .i64 (numV (fnd dl 2)), .slice An ns.length cn, .slice Ac cs.length cc] 30 (0, 0))), (60, .row (.int .i64) 3 (.slice An ns.length cn) ns (fun _ => False)), (61, .row ChgE 69 (.slice Ac cs.length cc) cs okc)]) (dl.length) ?_ ?_
     ·exact ⟨0, none, 0, [], none, 0, [], (fun _ => False), rfl, by omega, MInv.start dl, Byte.nil, (fun c hc => by cases hc), by simp, by simp, (fun kb h => h.elim), ((((((hF.bare.add hF 79 rfl).add hF 78 rfl).add hF 77 rfl).add hF 12 rfl).add hF 2 rfl).add hF 0 rfl), hH.sub _ (sub_cons (sub_cons (sub_cons (sub_cons (sub_cons (sub_cons (sub_cons (sub_cons (sub_cons (sub_nil _) 61 rfl) 60 rfl) 12 rfl) 38 rfl) 33 rfl) 21 rfl) 2 rfl) 990 rfl) 901 rfl)⟩
     ·rintro _ a w ⟨k, An, cn, ns, Ac, cc, cs, okc, rfl, hq0_0, hq0_1, hq0_2, hq0_3, hq0_4, hq0_5, hq0_6, hF, hH⟩
      refine wp_seq_k fun khK15 hK15 => ?_
      refine wp_region_lit ?_
      refine l_at hF rfl rfl rfl (x_lss (hF.tmp 79 rfl) (hF.tmp 78 rfl)) ?_; clear hF; intro a hF
      refine wpList_nil ?_
      refine hK15 _ _ ?_
      refine wp_seq_k fun khK16 hK16 => ?_
      refine wp_cond_split (hF.tmp 80 rfl) (fun hc80 => ?_) (fun hc80 => ?_)
      ·have hk80_3 := hc80; try simp only [Bool.or_eq_true, Bool.and_eq_true, Bool.or_eq_false_iff, Bool.and_eq_false_iff, Bool.not_eq_true', Bool.not_eq_false', decide_eq_true_eq, decide_eq_false_iff_not, Bool.not_true, Bool.not_false] at hc80
       refine wp_skip ?_
       refine hK16 _ _ ?_
       refine wp_seq_k fun khK17 hK17 => ?_
       refine wp_block ?_
       refine wp_seq_k fun khK18 hK18 => ?_
       refine wp_region_lit ?_
       obtain ⟨fA1, fc1, hfr1, hf1_0, hf1_1, hfw1⟩ := Rd.fld ((hH.rd 21 rfl)) (gf_some (xs := dl) (i := (k : Int)) (by omega) (by omega))
       have hH := hH.subrd 21 rfl 1001 hfr1 (fun _ h => h)
       have hH := hH.subcels 21 rfl 1499 hfw1 (Rd.inok ((hH.rd 21 rfl)) (by omega) _)
       have hH := hH.subcel 21 rfl 1500 hf1_0 (Rd.inok ((hH.rd 21 rfl)) (by omega) _)
       have hH := hH.subcel 21 rfl 1501 hf1_1 (Rd.inok ((hH.rd 21 rfl)) (by omega) _)
       have hmk : gf dl (k : Int) ∈ dl := List.mem_of_getElem? (gf_some (xs := dl) (i := (k : Int)) (by omega) (by omega))
       have hD2 := hfew.2 _ hmk
       refine l_at hF rfl rfl rfl (x_iaddr_A Tryd.underlying73 ty71 ((hH.rd 21 rfl)) (hF.tmp 77 rfl) (hF.tmp 79 rfl) (by omega) (by omega) _) ?_; clear hF; intro a hF
       refine l_at hF rfl rfl rfl (x_loadn ty71 (hF.tmp 81 rfl) rfl (hH.holds 1499 _ rfl)) ?_; clear hF; intro a hF
       refine wpList_plain rfl fun K hK => ?_
       refine w_alloc 14 hF hH rfl ty71 ?_
       clear hF hH; intro a w b14 hF hH
       refine hK _ _ ?_; clear hK K
       refine wpList_plain rfl fun K hK => ?_
       refine w_storeA 14 hH ty71 rfl (hF.tmp 14 rfl) (hF.tmp 82 rfl) rfl (by simp [Value.cells, Value.oneCell']) rfl ?_
       clear hH; intro w hH
       refine hK _ _ ?_; clear hK K
       refine wpList_nil ?_
       refine hK18 _ _ ?_
       refine wp_seq_k fun khK19 hK19 => ?_
       refine wp_region_lit ?_
       refine l_at hF rfl rfl rfl (x_faddr Tryd.underlying71 rfl ty3 (by decide) (hF.tmp 14 rfl) rfl) ?_; clear hF; intro a hF
       refine l_at hF rfl rfl rfl (x_load1 ty3 (hF.tmp 83 rfl) (blk_cell (hH.at 14 rfl) 0 rfl)) ?_; clear hF; intro a hF
       refine wpList_nil ?_
       refine hK19 _ _ ?_
       refine wp_block ?_
       refine wp_seq_k fun khK20 hK20 => ?_
       refine wp_region_lit ?_
       refine l_at hF rfl rfl rfl (x_eql (hF.tmp 84 rfl) rfl) ?_; clear hF; intro a hF
       refine l_at hF rfl rfl rfl (x_assign (hF.tmp 86 rfl)) ?_; clear hF; intro a hF
       refine wpList_nil ?_
       refine hK20 _ _ ?_
       refine wp_cond_split (hF.tmp 85 rfl) (fun hc85 => ?_) (fun hc85 => ?_)
       ·have hk85_4 := hc85; try simp only [Bool.or_eq_true, Bool.and_eq_true, Bool.or_eq_false_iff, Bool.and_eq_false_iff, Bool.not_eq_true', Bool.not_eq_false', decide_eq_true_eq, decide_eq_false_iff_not, Bool.not_true, Bool.not_false] at hc85
        refine wp_seq_k fun khK21 hK21 => ?_
        refine wp_region_lit ?_
        refine l_at hF rfl rfl rfl (x_faddr Tryd.underlying71 rfl ty53 (by decide) (hF.tmp 14 rfl) rfl) ?_; clear hF; intro a hF
        refine l_at hF rfl rfl rfl (x_load1 ty53 (hF.tmp 87 rfl) (blk_cell (hH.at 14 rfl) 1 rfl)) ?_; clear hF; intro a hF
        refine l_at hF rfl rfl rfl (x_len_slice Tryd.underlying53 (hF.tmp 88 rfl)) ?_; clear hF; intro a hF
        refine l_at hF rfl rfl rfl (x_move rfl) ?_; clear hF; intro a hF
        refine wpList_nil ?_
        refine hK21 _ _ ?_
        refine wp_block ?_
        refine wp_loop_ghost (fun n_ a w => ∃ j : Nat, ∃ Aj : Option Addr, ∃ cj : Nat, ∃ l : List Int, n_ = (gf dl (k : Int)).2.length - j ∧ (j ≤ (gf dl (k : Int)).2.length) ∧ (l = ns ++ (gf dl (k : Int)).2.take j) ∧ Fr 135 a [(0, .slice A bs.length c), (2, .pointer (some ⟨b2, 0, none⟩)), (12, .pointer (some ⟨b12, 0, none⟩)), (77, .slice Ar21 dl.length cr21), (78, .int .i64 (dl.length : Int)), (79, .int .i64 (k : Int)), (88, .slice fA1 (gf dl (k : Int)).2.length fc1), (89, .int .i64 (((gf dl (k : Int)).2).length : Int)), (90, .int .i64 (j : Int))] ∧ Hp (fun _ => False) w0 w [(901, .rd_ (.int .u8) A bs c (fun k => k < w0.heap.size)), (990, .lib true), (2, .blk b2 (.cells #[.int .i64 0, .int .i64 0, .int .i64 0, .int .i64 0, .slice none 0 0, .slice none 0 0] 30 (0, 0))), (21, .rd_ FE Ar21 dl cr21 (fun kb => okr21 kb ∨ (Value.slice Ar21 dl.length cr21).ownBlock = some kb)), (33, .rd_ (.int .u8) Ar33 (fnd dl 1) cr33 (fun kb => (Value.slice Ar33 (fnd dl 1).length cr33).ownBlock = some kb)), (38, .row (.int .u8) 5 (.slice Ar38 (fnd dl 2).length cr38) (fnd dl 2) (fun _ => False)), (12, .blk b12 (.cells #[.int .i64 (gi (fnd dl 1) 0), .int .i64 (gi (fnd dl 1) 1), .int .i64 (gi (fnd dl 1) 2), .int .i64 (numV (fnd dl 2)), .slice Aj l.length cj, .slice Ac cs.length cc] 30 (0, 0))), (60, .row (.int .i64) 3 (.slice Aj l.length cj) l (fun _ => False)), (61, .row ChgE 69 (.slice Ac cs.length cc) cs okc), (1001, .rd_ (.int .u8) (fA1) (gf dl (k : Int)).2 fc1 (fun kb => okr21 kb ∨ (Value.slice Ar21 dl.length cr21).ownBlock = some kb)), (1499, .cels (adr Ar21 (Int.toNat (k : Int) * 2)) #[.int .i64 (gf dl (k : Int)).1, .slice fA1 (gf dl (k : Int)).2.length fc1]), (1500, .cel (adr Ar21 (Int.toNat (k : Int) * 2)) (.int .i64 (gf dl (k : Int)).1)), (1501, .cel (adr Ar21 (Int.toNat (k : Int) * 2 + 1)) (.slice fA1 (gf dl (k : Int)).2.length fc1)), (14, .blk b14 (.cells #[.int .i64 (gf dl (k : Int)).1, .slice fA1 (gf dl (k : Int)).2.length fc1] 71 (0, 0)))]) ((gf dl (k : Int)).2.length) ?_ ?_
        ·exact ⟨0, An, cn, ns, rfl, by omega, by simp, (((((((((hF.bare.add hF 90 rfl).add hF 89 rfl).add hF 88 rfl).add hF 79 rfl).add hF 78 rfl).add hF 77 rfl).add hF 12 rfl).add hF 2 rfl).add hF 0 rfl), hH.sub _ (sub_cons (sub_cons (sub_cons (sub_cons (sub_cons (sub_cons (sub_cons (sub_cons (sub_cons (sub_cons (sub_cons (sub_cons (sub_cons (sub_cons (sub_nil _) 14 rfl) 1501 rfl) 1500 rfl) 1499 rfl) 1001 rfl) 61 rfl) 60 rfl) 12 rfl) 38 rfl) 33 rfl) 21 rfl) 2 rfl) 990 rfl) 901 rfl)⟩
        ·rintro _ a w ⟨j, Aj, cj, l, rfl, hq3_0, hq3_1, hF, hH⟩
         have hlj := hq0_4
         have hll : l.length ≤ 400000 + 2000 := by rw [hq3_1, List.length_append, List.length_take]; have := hfew.1; have := hfew.2 _ hmk; omega
         refine wp_seq_k fun khK22 hK22 => ?_
         refine wp_region_lit ?_
         refine l_at hF rfl rfl rfl (x_lss (hF.tmp 90 rfl) (hF.tmp 89 rfl)) ?_; clear hF; intro a hF
         refine wpList_nil ?_
         refine hK22 _ _ ?_
         refine wp_seq_k fun khK23 hK23 => ?_
         refine wp_cond_split (hF.tmp 91 rfl) (fun hc91 => ?_) (fun hc91 => ?_)
         ·have hk91_5 := hc91; try simp only [Bool.or_eq_true, Bool.and_eq_true, Bool.or_eq_false_iff, Bool.and_eq_false_iff, Bool.not_eq_true', Bool.not_eq_false', decide_eq_true_eq, decide_eq_false_iff_not, Bool.not_true, Bool.not_false] at hc91
          refine wp_skip ?_
          refine hK23 _ _ ?_
          refine wp_seq_k fun khK24 hK24 => ?_
          refine wp_block ?_
          refine wp_seq_k fun khK25 hK25 => ?_
          refine wp_region_lit ?_
          refine l_at hF rfl rfl rfl (x_iaddr_A Tryd.underlying53 ty5 ((hH.rd 1001 rfl)) (hF.tmp 88 rfl) (hF.tmp 90 rfl) (by omega) (by omega) _) ?_; clear hF; intro a hF
          refine l_at hF rfl rfl rfl (x_load1 ty5 (hF.tmp 92 rfl) (((hH.rd 1001 rfl)).cellA (gi_some (i := (j : Int)) (by omega) (by omega)))) ?_; clear hF; intro a hF
          refine l_at hF rfl rfl rfl (x_assign (hF.tmp 93 rfl)) ?_; clear hF; intro a hF
          refine wpList_nil ?_
          refine hK25 _ _ ?_
          refine wp_region_lit ?_
          refine l_at hF rfl rfl rfl (x_faddr Tryd.underlying30 rfl ty27 (by decide) (hF.tmp 12 rfl) rfl) ?_; clear hF; intro a hF
          refine l_at hF rfl rfl rfl (x_load1 ty27 (hF.tmp 94 rfl) (blk_cell (hH.at 12 rfl) 4 rfl)) ?_; clear hF; intro a hF
          refine l_at hF rfl rfl rfl (x_move (hF.tmp 16 rfl)) ?_; clear hF; intro a hF
          refine l_at hF rfl rfl rfl (x_conv Tryd.underlying3 ⟨_, Tryd.underlying5⟩ (hF.tmp 96 rfl) (w64 (by have := ((hbf _ hmk : Byte _).gi (j : Int)); omega) (by have := ((hbf _ hmk : Byte _).gi (j : Int)); omega))) ?_; clear hF; intro a hF
          refine wpList_plain rfl fun K hK => ?_
          refine w_lit 950 (enc := Value.int .i64) (h1 := fun _ => rfl) ([(gi (gf dl (k : Int)).2 (j : Int))]) hF hH rfl Tryd.underlying27 ty3 (by simp only [List.map_toArray, List.map_cons, List.map_nil, hF.tmp 97 rfl]; rfl) rfl (by decide) (by decide) (by kernel_rfl) ?_
          clear hF hH; intro a w b98 hF hH
          refine hK _ _ ?_; clear hK K
          refine wpList_plain rfl fun K hK => ?_
          refine w_append 60 950 (xs := l) (ys := ([(gi (gf dl (k : Int)).2 (j : Int))])) hF hH rfl Tryd.underlying27 ty3 rfl rfl rfl rfl (Row.rd (ok' := fun k_ => (fun _ => False) k_ ∨ (.slice (some ⟨b98, 0, none⟩) ([(gi (gf dl (k : Int)).2 (j : Int))]).length ([(gi (gf dl (k : Int)).2 (j : Int))]).length : Value).ownBlock = some k_) (hH.row 950 rfl) (fun _ hk_ _ => .inl hk_) (fun _ hk_ => .inr hk_)) (by rintro k_ (hk_ | hk_); exact .inr hk_; exact .inl hk_) (hF.tmp 95 rfl) (hF.tmp 98 rfl) (by simp only [List.length_append, List.length_nil, List.length_cons, List.length_map, List.length_take] at *; omega) (by simp only [List.length_append, List.length_nil, List.length_cons, List.length_map, List.length_take, maxLen] at *; omega) (fun _ => False) (fun w' v' h => row_flat h _) (fun k_ hk_ => hk_.elim) ?_
          clear hF hH; intro a w v99 hF hH
          refine hK _ _ ?_; clear hK K
          obtain ⟨A99, c99, rfl⟩ := (hH.row 60 rfl).form
          refine l_at hF rfl rfl rfl (x_faddr Tryd.underlying30 rfl ty27 (by decide) (hF.tmp 12 rfl) rfl) ?_; clear hF; intro a hF
          refine wpList_plain rfl fun K hK => ?_
          refine w_store 12 hH ty27 rfl (hF.tmp 100 rfl) (hF.tmp 99 rfl) rfl (one1 rfl rfl) (by first | decide | exact Nat.le_of_ble_eq_true rfl) ?_
          clear hH; intro w hH
          refine hK _ _ ?_; clear hK K
          refine wpList_nil ?_
          refine hK24 _ _ ?_
          refine wp_region_lit ?_
          refine l_at hF rfl rfl rfl (x_add (hF.tmp 90 rfl) rfl (w64 (by omega) (by omega))) ?_; clear hF; intro a hF
          refine l_at hF rfl rfl rfl (x_move (hF.tmp 101 rfl)) ?_; clear hF; intro a hF
          refine wpList_nil ?_
          exact ⟨_, by omega, ⟨j + 1, A99, c99, (l ++ [(gi (gf dl (k : Int)).2 (j : Int))]), rfl, by omega, ghost_step hq3_1 (by omega), (((((((((hF.bare.add hF 90 rfl).add hF 89 rfl).add hF 88 rfl).add hF 79 rfl).add hF 78 rfl).add hF 77 rfl).add hF 12 rfl).add hF 2 rfl).add hF 0 rfl), hH.sub _ (sub_cons (sub_cons (sub_cons (sub_cons (sub_cons (sub_cons (sub_cons (sub_cons (sub_cons (sub_cons (sub_cons (sub_cons (sub_cons (sub_cons (sub_nil _) 14 rfl) 1501 rfl) 1500 rfl) 1499 rfl) 1001 rfl) 61 rfl) 60 rfl) 12 rfl) 38 rfl) 33 rfl) 21 rfl) 2 rfl) 990 rfl) 901 rfl)⟩⟩
         ·have hk91_6 := hc91; try simp only [Bool.or_eq_true, Bool.and_eq_true, Bool.or_eq_false_iff, Bool.and_eq_false_iff, Bool.not_eq_true', Bool.not_eq_false', decide_eq_true_eq, decide_eq_false_iff_not, Bool.not_true, Bool.not_false] at hc91
          obtain rfl : j = (gf dl (k : Int)).2.length := by omega
          have hle_ : l = ns ++ (gf dl (k : Int)).2 := by rw [hq3_1, List.take_length]
          refine wp_exit ?_
          refine hK17 _ _ ?_
          refine wp_region_lit ?_
          refine l_at hF rfl rfl rfl (x_add (hF.tmp 79 rfl) rfl (w64 (by omega) (by omega))) ?_; clear hF; intro a hF
          refine l_at hF rfl rfl rfl (x_move (hF.tmp 119 rfl)) ?_; clear hF; intro a hF
          refine wpList_nil ?_
          exact ⟨_, by omega, ⟨k + 1, Aj, cj, l, Ac, cc, cs, okc, rfl, by omega, (hle_ ▸ hq0_1.nodes hc80 hc85), (by rw [hle_]; exact hq0_2.app (hbf _ hmk)), hq0_3, (by rw [hle_, List.length_append]; omega), by omega, hq0_6, ((((((hF.bare.add hF 79 rfl).add hF 78 rfl).add hF 77 rfl).add hF 12 rfl).add hF 2 rfl).add hF 0 rfl), hH.sub _ (sub_cons (sub_cons (sub_cons (sub_cons (sub_cons (sub_cons (sub_cons (sub_cons (sub_cons (sub_nil _) 61 rfl) 60 rfl) 12 rfl) 38 rfl) 33 rfl) 21 rfl) 2 rfl) 990 rfl) 901 rfl)⟩⟩
       ·have hk85_7 := hc85; try simp only [Bool.or_eq_true, Bool.and_eq_true, Bool.or_eq_false_iff, Bool.and_eq_false_iff, Bool.not_eq_true', Bool.not_eq_false', decide_eq_true_eq, decide_eq_false_iff_not, Bool.not_true, Bool.not_false] at hc85
        refine wp_seq_k fun khK26 hK26 => ?_
        refine wp_region_lit ?_
        refine l_at hF rfl rfl rfl (x_eql (hF.tmp 84 rfl) rfl) ?_; clear hF; intro a hF
        refine l_at hF rfl rfl rfl (x_assign (hF.tmp 103 rfl)) ?_; clear hF; intro a hF
        refine wpList_nil ?_
        refine hK26 _ _ ?_
        refine wp_cond_split (hF.tmp 102 rfl) (fun hc102 => ?_) (fun hc102 => ?_)
        ·have hk102_8 := hc102; try simp only [Bool.or_eq_true, Bool.and_eq_true, Bool.or_eq_false_iff, Bool.and_eq_false_iff, Bool.not_eq_true', Bool.not_eq_false', decide_eq_true_eq, decide_eq_false_iff_not, Bool.not_true, Bool.not_false] at hc102
         refine wp_seq_k fun khK27 hK27 => ?_
         refine wp_region_lit ?_
         refine l_at hF rfl rfl rfl (x_faddr Tryd.underlying71 rfl ty53 (by decide) (hF.tmp 14 rfl) rfl) ?_; clear hF; intro a hF
         refine l_at hF rfl rfl rfl (x_load1 ty53 (hF.tmp 105 rfl) (blk_cell (hH.at 14 rfl) 1 rfl)) ?_; clear hF; intro a hF
         refine wpList_plain rfl fun K hK => ?_
         refine w_call hF (x_enter Tryd.func36 (by kernel_rfl) rfl (by simp only [List.map_toArray, List.map_cons, List.map_nil, hF.tmp 106 rfl] <;> rfl)) (decC_calls _ (hH.holds 990 _ rfl) ((hH.rd 1001 rfl)) (hbf _ hmk)) rfl rfl ?_
         rintro _ w ⟨x, Ad, cd, g, rfl, hm_, hr_, hD_⟩; refine ⟨_, rfl, ?_⟩; clear hF; intro a hF; have hH := Hp.rowOut hH 70 hm_ hr_
         refine hK _ _ ?_; clear hK K
         refine l_at hF rfl rfl rfl (x_move (hF.tmp 107 rfl)) ?_; clear hF; intro a hF
         refine l_at hF rfl rfl rfl (x_extract (hF.tmp 104 rfl) rfl) ?_; clear hF; intro a hF
         refine l_at hF rfl rfl rfl (x_extract (hF.tmp 104 rfl) rfl) ?_; clear hF; intro a hF
         refine wpList_plain rfl fun K hK => ?_
         refine w_alloc 17 hF hH rfl ty69 ?_
         clear hF hH; intro a w b17 hF hH
         refine hK _ _ ?_; clear hK K
         refine wpList_plain rfl fun K hK => ?_
         refine w_storeA 17 hH ty69 rfl (hF.tmp 17 rfl) (hF.tmp 108 rfl) rfl (by simp [Value.cells, Value.oneCell']) rfl ?_
         clear hH; intro w hH
         refine hK _ _ ?_; clear hK K
         refine l_at hF rfl rfl rfl (x_assign (hF.tmp 109 rfl)) ?_; clear hF; intro a hF
         refine wpList_nil ?_
         refine hK27 _ _ ?_
         refine wp_seq_k fun khK28 hK28 => ?_
         refine wp_seq_k fun khK29 hK29 => ?_
         refine wp_region_lit ?_
         refine l_at hF rfl rfl rfl (x_move (hF.tmp 18 rfl)) ?_; clear hF; intro a hF
         refine l_at hF rfl rfl rfl (x_neq (hF.tmp 110 rfl) rfl) ?_; clear hF; intro a hF
         refine wpList_nil ?_
         refine hK29 _ _ ?_
         refine wp_cond_split (hF.tmp 111 rfl) (fun hc111 => ?_) (fun hc111 => ?_)
         ·have hk111_9 := hc111; try simp only [Bool.or_eq_true, Bool.and_eq_true, Bool.or_eq_false_iff, Bool.and_eq_false_iff, Bool.not_eq_true', Bool.not_eq_false', decide_eq_true_eq, decide_eq_false_iff_not, Bool.not_true, Bool.not_false] at hc111
          have hz : NoM bs := noM_chg hdec hc80 hc102 hD_ hc111
          refine wp_seq_k fun khK30 hK30 => ?_
          refine wp_region_lit ?_
          refine l_at hF rfl rfl rfl (x_buildS (cells := #[.int .i64 0, .int .i64 0, .int .i64 0, .int .i64 0, .slice none 0 0, .slice none 0 0]) (places := #[(0, 1), (1, 1), (2, 1), (3, 1), (4, 1), (5, 1)]) Tryd.underlying30 ty30 (by kernel_rfl) Array.map_empty rfl) ?_; clear hF; intro a hF
          refine wpList_plain rfl fun K hK => ?_
          refine w_storeA 2 hH ty30 rfl (hF.tmp 2 rfl) (hF.tmp 112 rfl) rfl (by simp [Value.cells, Value.oneCell']) rfl ?_
          clear hH; intro w hH
          refine hK _ _ ?_; clear hK K
          refine l_at hF rfl rfl rfl (x_assign rfl) ?_; clear hF; intro a hF
          refine wpList_nil ?_
          refine hK30 _ _ ?_
          refine wp_ret ?_
          try simp only [Exit.then, Exit.inBlock]
          exact fin_ret hF (resct hF rfl rfl rfl (hH.at 2 rfl) ty30 rfl) ⟨⟨0, 0, 0, 0, [], []⟩, none, 0, none, 0, (fun _ => False), 161, rfl, hH.mods, Rd.nil _ _ _, Rd.nil _ _ _, (fun k h => h.elim), DecM.no hz⟩
         ·have hk111_10 := hc111; try simp only [Bool.or_eq_true, Bool.and_eq_true, Bool.or_eq_false_iff, Bool.and_eq_false_iff, Bool.not_eq_true', Bool.not_eq_false', decide_eq_true_eq, decide_eq_false_iff_not, Bool.not_true, Bool.not_false] at hc111
          have hg0 : g = 0 := hc111
          refine wp_skip ?_
          refine hK28 _ _ ?_
          refine wp_region_lit ?_
          have hfr70 : ∀ kb, (Value.slice Ad x.timer.steps.length cd).ownBlock = some kb → w0.heap.size ≤ kb := fun kb h => (hH.mine 70 _ rfl kb h).resolve_left (fun h => h)
          have hH := hH.freeze 70 rfl (fun kb => (Value.slice Ad x.timer.steps.length cd).ownBlock = some kb) (fun kb => ⟨fun h => .inr h, fun h => h.resolve_left id⟩)
          refine l_at hF rfl rfl rfl (x_faddr Tryd.underlying30 rfl ty28 (by decide) (hF.tmp 12 rfl) rfl) ?_; clear hF; intro a hF
          refine l_at hF rfl rfl rfl (x_load1 ty28 (hF.tmp 113 rfl) (blk_cell (hH.at 12 rfl) 5 rfl)) ?_; clear hF; intro a hF
          refine l_at hF rfl rfl rfl (x_loadn ty69 (hF.tmp 17 rfl) rfl (blk_whole (hH.at 17 rfl))) ?_; clear hF; intro a hF
          refine wpList_plain rfl fun K hK => ?_
          refine w_lit1 116 ChgE x #[.int .i64 x.kind, .string (strOfNums x.key), .string (strOfNums x.value), .string (strOfNums x.timer.name), .int .i64 x.timer.ver, .int .u64 x.timer.tick, .int .u64 x.timer.every, .slice Ad x.timer.steps.length cd] (fun kb => (Value.slice Ad x.timer.steps.length cd).ownBlock = some kb) hF hH rfl Tryd.underlying28 ty69 (by simp only [List.map_toArray, List.map_cons, List.map_nil, hF.tmp 115 rfl] <;> rfl) (by decide) (by kernel_rfl) (chg_mk x ((hH.rd 70 rfl))) (fun kb hk => ⟨70, _, rfl, hk⟩) ?_
          clear hF hH; intro a w b116 hF hb116_ hH
          refine hK _ _ ?_; clear hK K
          refine wpList_plain rfl fun K hK => ?_
          refine w_append 61 116 (xs := cs) (ys := ([x])) hF hH rfl Tryd.underlying28 ty69 rfl rfl rfl rfl ((hH.rd 116 rfl)) (by intro k_ hk_; exact .inr hk_) (hF.tmp 114 rfl) (hF.tmp 116 rfl) (by simp only [List.length_append, List.length_nil, List.length_cons, List.length_map, List.length_take] at *; omega) (by simp only [List.length_append, List.length_nil, List.length_cons, List.length_map, List.length_take, maxLen] at *; omega) (fun kb => okc kb ∨ (fun kb => (fun kb => (Value.slice Ad x.timer.steps.length cd).ownBlock = some kb) kb ∨ kb = b116) kb) (fun w' v' h => h) (by rintro k_ (hk_ | hk_); exact .inl hk_; exact .inr hk_) ?_
          clear hF hH; intro a w v117 hF hH
          refine hK _ _ ?_; clear hK K
          obtain ⟨A117, c117, rfl⟩ := (hH.row 61 rfl).form
          refine l_at hF rfl rfl rfl (x_faddr Tryd.underlying30 rfl ty28 (by decide) (hF.tmp 12 rfl) rfl) ?_; clear hF; intro a hF
          refine wpList_plain rfl fun K hK => ?_
          refine w_store 12 hH ty28 rfl (hF.tmp 118 rfl) (hF.tmp 117 rfl) rfl (one1 rfl rfl) (by first | decide | exact Nat.le_of_ble_eq_true rfl) ?_
          clear hH; intro w hH
          refine hK _ _ ?_; clear hK K
          refine wpList_nil ?_
          refine hK17 _ _ ?_
          refine wp_region_lit ?_
          refine l_at hF rfl rfl rfl (x_add (hF.tmp 79 rfl) rfl (w64 (by omega) (by omega))) ?_; clear hF; intro a hF
          refine l_at hF rfl rfl rfl (x_move (hF.tmp 119 rfl)) ?_; clear hF; intro a hF
          refine wpList_nil ?_
          exact ⟨_, by omega, ⟨k + 1, An, cn, ns, A117, c117, (cs ++ [x]), (fun kb => okc kb ∨ (fun kb => (fun kb => (Value.slice Ad x.timer.steps.length cd).ownBlock = some kb) kb ∨ kb = b116) kb), rfl, by omega, hq0_1.chg hc80 hc102 (hg0 ▸ hD_), hq0_2, (fun c hc => by rcases List.mem_append.1 hc with hc | hc; exact hq0_3 c hc; rw [List.mem_singleton.1 hc]; exact hD_.1), by omega, (by simp only [List.length_append, List.length_cons, List.length_nil]; omega), (fun kb h => by rcases h with h | h | rfl; exact hq0_6 kb h; exact hfr70 kb h; exact hb116_.resolve_left id), ((((((hF.bare.add hF 79 rfl).add hF 78 rfl).add hF 77 rfl).add hF 12 rfl).add hF 2 rfl).add hF 0 rfl), hH.sub _ (sub_cons (sub_cons (sub_cons (sub_cons (sub_cons (sub_cons (sub_cons (sub_cons (sub_cons (sub_nil _) 61 rfl) 60 rfl) 12 rfl) 38 rfl) 33 rfl) 21 rfl) 2 rfl) 990 rfl) 901 rfl)⟩⟩
        ·have hk102_11 := hc102; try simp only [Bool.or_eq_true, Bool.and_eq_true, Bool.or_eq_false_iff, Bool.and_eq_false_iff, Bool.not_eq_true', Bool.not_eq_false', decide_eq_true_eq, decide_eq_false_iff_not, Bool.not_true, Bool.not_false] at hc102
         refine wp_skip ?_
         refine hK17 _ _ ?_
         refine wp_region_lit ?_
         refine l_at hF rfl rfl rfl (x_add (hF.tmp 79 rfl) rfl (w64 (by omega) (by omega))) ?_; clear hF; intro a hF
         refine l_at hF rfl rfl rfl (x_move (hF.tmp 119 rfl)) ?_; clear hF; intro a hF
         refine wpList_nil ?_
         exact ⟨_, by omega, ⟨k + 1, An, cn, ns, Ac, cc, cs, okc, rfl, by omega, hq0_1.skip hc80 hc85 hc102, hq0_2, hq0_3, by omega, by omega, hq0_6, ((((((hF.bare.add hF 79 rfl).add hF 78 rfl).add hF 77 rfl).add hF 12 rfl).add hF 2 rfl).add hF 0 rfl), hH.sub _ (sub_cons (sub_cons (sub_cons (sub_cons (sub_cons (sub_cons (sub_cons (sub_cons (sub_cons (sub_nil _) 61 rfl) 60 rfl) 12 rfl) 38 rfl) 33 rfl) 21 rfl) 2 rfl) 990 rfl) 901 rfl)⟩⟩
      ·have hk80_12 := hc80; try simp only [Bool.or_eq_true, Bool.and_eq_true, Bool.or_eq_false_iff, Bool.and_eq_false_iff, Bool.not_eq_true', Bool.not_eq_false', decide_eq_true_eq, decide_eq_false_iff_not, Bool.not_true, Bool.not_false] at hc80
       obtain rfl : k = dl.length := by omega
       have hMB : MessageB (zM dl ns cs) := ⟨i64_u8 ((fnd_byte hbf 1 : Byte _).gi 0), i64_u8 ((fnd_byte hbf 1 : Byte _).gi 1), i64_u8 ((fnd_byte hbf 1 : Byte _).gi 2), (by have := numV_range (fnd_byte hbf 2); exact ⟨by show (_ : Int) ≤ numV _; omega, by show numV _ < (_ : Int); omega⟩), (fun n hn => (by have := hq0_2 n hn; exact ⟨by omega, by omega⟩)), hq0_3⟩
       refine wp_exit ?_
       refine hK13 _ _ ?_
       refine wp_seq_k fun khK31 hK31 => ?_
       refine wp_seq_k fun khK32 hK32 => ?_
       refine wp_region_lit ?_
       refine l_at hF rfl rfl rfl (x_loadn ty30 (hF.tmp 12 rfl) rfl (blk_whole (hH.at 12 rfl))) ?_; clear hF; intro a hF
       refine wpList_plain rfl fun K hK => ?_
       refine w_call hF (x_enter Tryd.func21 (by kernel_rfl) rfl (by simp only [List.map_toArray, List.map_cons, List.map_nil, hF.tmp 121 rfl] <;> rfl)) (encM_calls (m := (zM dl ns cs)) _ (hH.holds 990 _ rfl) (Row.rd (ok' := fun k_ => (fun _ => False) k_ ∨ (.slice An ns.length cn : Value).ownBlock = some k_) (hH.row 60 rfl) (fun _ hk_ _ => .inl hk_) (fun _ hk_ => .inr hk_)) (Row.rd (ok' := fun k_ => okc k_ ∨ (.slice Ac cs.length cc : Value).ownBlock = some k_) (hH.row 61 rfl) (fun _ hk_ _ => .inl hk_) (fun _ hk_ => .inr hk_)) hMB) rfl rfl ?_
       rintro _ w ⟨vr80, rfl, hm_, hr_⟩; refine ⟨_, rfl, ?_⟩; clear hF; intro a hF; have hH := Hp.rowOut hH 80 hm_ hr_; obtain ⟨Ar80, cr80, rfl⟩ := (hH.row 80 rfl).form
       refine hK _ _ ?_; clear hK K
       refine l_at hF rfl rfl rfl (x_move (hF.tmp 122 rfl)) ?_; clear hF; intro a hF
       refine l_at hF rfl rfl rfl (x_extract (hF.tmp 120 rfl) rfl) ?_; clear hF; intro a hF
       refine l_at hF rfl rfl rfl (x_extract (hF.tmp 120 rfl) rfl) ?_; clear hF; intro a hF
       refine l_at hF rfl rfl rfl (x_assign (hF.tmp 123 rfl)) ?_; clear hF; intro a hF
       refine l_at hF rfl rfl rfl (x_assign (hF.tmp 124 rfl)) ?_; clear hF; intro a hF
       refine wpList_nil ?_
       refine hK32 _ _ ?_
       refine wp_seq_k fun khK33 hK33 => ?_
       refine wp_region_lit ?_
       refine l_at hF rfl rfl rfl (x_move (hF.tmp 20 rfl)) ?_; clear hF; intro a hF
       refine l_at hF rfl rfl rfl (x_neq (hF.tmp 125 rfl) rfl) ?_; clear hF; intro a hF
       refine l_at hF rfl rfl rfl (x_move (hF.tmp 126 rfl)) ?_; clear hF; intro a hF
       refine split_bool hF 127 rfl (fun hb127 => ?_) (fun hb127 => ?_)
       ·have hc127 := hb127; try simp only [Bool.or_eq_true, Bool.and_eq_true, Bool.or_eq_false_iff, Bool.and_eq_false_iff, Bool.not_eq_true', Bool.not_eq_false', decide_eq_true_eq, decide_eq_false_iff_not, Bool.not_true, Bool.not_false] at hc127
        have hz : NoM bs := noM_end hdec hq0_1 (fun h => hc127 h.1)
        refine l_offg hF ((wanted_of hF rfl rfl rfl rfl).trans (by rw [hb127]; rfl)) rfl rfl ?_; clear hF; intro a hF
        refine l_offg hF ((wanted_of hF rfl rfl rfl rfl).trans (by rw [hb127]; rfl)) rfl rfl ?_; clear hF; intro a hF
        refine l_offg hF ((wanted_of hF rfl rfl rfl rfl).trans (by rw [hb127]; rfl)) rfl rfl ?_; clear hF; intro a hF
        refine l_offg hF ((wanted_of hF rfl rfl rfl rfl).trans (by rw [hb127]; rfl)) rfl rfl ?_; clear hF; intro a hF
        refine l_at hF rfl rfl rfl (x_pickT (hF.tmp 127 rfl) hb127 rfl) ?_; clear hF; intro a hF
        refine wpList_nil ?_
        refine hK33 _ _ ?_
        refine wp_cond_true (hF.tmp 132 rfl) ?_
        refine wp_seq_k fun khK34 hK34 => ?_
        refine wp_region_lit ?_
        refine l_at hF rfl rfl rfl (x_buildS (cells := #[.int .i64 0, .int .i64 0, .int .i64 0, .int .i64 0, .slice none 0 0, .slice none 0 0]) (places := #[(0, 1), (1, 1), (2, 1), (3, 1), (4, 1), (5, 1)]) Tryd.underlying30 ty30 (by kernel_rfl) Array.map_empty rfl) ?_; clear hF; intro a hF
        refine wpList_plain rfl fun K hK => ?_
        refine w_storeA 2 hH ty30 rfl (hF.tmp 2 rfl) (hF.tmp 133 rfl) rfl (by simp [Value.cells, Value.oneCell']) rfl ?_
        clear hH; intro w hH
        refine hK _ _ ?_; clear hK K
        refine l_at hF rfl rfl rfl (x_assign rfl) ?_; clear hF; intro a hF
        refine wpList_nil ?_
        refine hK34 _ _ ?_
        refine wp_ret ?_
        try simp only [Exit.then, Exit.inBlock]
        exact fin_ret hF (resct hF rfl rfl rfl (hH.at 2 rfl) ty30 rfl) ⟨⟨0, 0, 0, 0, [], []⟩, none, 0, none, 0, (fun _ => False), 161, rfl, hH.mods, Rd.nil _ _ _, Rd.nil _ _ _, (fun k h => h.elim), DecM.no hz⟩
       ·have hc127 := hb127; try simp only [Bool.or_eq_true, Bool.and_eq_true, Bool.or_eq_false_iff, Bool.and_eq_false_iff, Bool.not_eq_true', Bool.not_eq_false', decide_eq_true_eq, decide_eq_false_iff_not, Bool.not_true, Bool.not_false] at hc127
        refine l_atg hF ((wanted_of hF rfl rfl rfl rfl).trans (by rw [hb127]; rfl)) rfl rfl (x_move (hF.tmp 19 rfl)) ?_; clear hF; intro a hF
        refine l_atg hF ((wanted_of hF rfl rfl rfl rfl).trans (by rw [hb127]; rfl)) rfl rfl (x_move (hF.tmp 0 rfl)) ?_; clear hF; intro a hF
        refine wpList_on ((wanted_of hF rfl rfl rfl rfl).trans (by rw [hb127]; rfl)) fun K hK => ?_
        refine w_call hF (x_enter Tryd.func37 (by kernel_rfl) rfl (by simp only [List.map_toArray, List.map_cons, List.map_nil, hF.tmp 128 rfl, hF.tmp 129 rfl] <;> rfl)) (bequal_calls _ (Row.rd (ok' := fun k_ => (fun _ => False) k_ ∨ (.slice Ar80 (encM (zM dl ns cs)).length cr80 : Value).ownBlock = some k_) (hH.row 80 rfl) (fun _ hk_ _ => .inl hk_) (fun _ hk_ => .inr hk_)) ((hH.rd 901 rfl)) (encM_byte hMB) hby) rfl rfl ?_
        rintro _ w ⟨rfl, hm_⟩; refine ⟨_, rfl, ?_⟩; clear hF; intro a hF; have hH := hH.same hm_
        refine hK _ _ ?_; clear hK K
        refine l_atg hF ((wanted_of hF rfl rfl rfl rfl).trans (by rw [hb127]; rfl)) rfl rfl (x_not (hF.tmp 130 rfl)) ?_; clear hF; intro a hF
        refine l_at hF rfl rfl rfl (x_pickF (hF.tmp 127 rfl) hb127 (hF.tmp 131 rfl)) ?_; clear hF; intro a hF
        refine wpList_nil ?_
        refine hK33 _ _ ?_
        refine wp_cond_split (hF.tmp 132 rfl) (fun hc132 => ?_) (fun hc132 => ?_)
        ·have hk132_13 := hc132; try simp only [Bool.or_eq_true, Bool.and_eq_true, Bool.or_eq_false_iff, Bool.and_eq_false_iff, Bool.not_eq_true', Bool.not_eq_false', decide_eq_true_eq, decide_eq_false_iff_not, Bool.not_true, Bool.not_false] at hc132
         have hz : NoM bs := noM_end hdec hq0_1 (fun h => hc132 h.2)
         refine wp_seq_k fun khK35 hK35 => ?_
         refine wp_region_lit ?_
         refine l_at hF rfl rfl rfl (x_buildS (cells := #[.int .i64 0, .int .i64 0, .int .i64 0, .int .i64 0, .slice none 0 0, .slice none 0 0]) (places := #[(0, 1), (1, 1), (2, 1), (3, 1), (4, 1), (5, 1)]) Tryd.underlying30 ty30 (by kernel_rfl) Array.map_empty rfl) ?_; clear hF; intro a hF
         refine wpList_plain rfl fun K hK => ?_
         refine w_storeA 2 hH ty30 rfl (hF.tmp 2 rfl) (hF.tmp 133 rfl) rfl (by simp [Value.cells, Value.oneCell']) rfl ?_
         clear hH; intro w hH
         refine hK _ _ ?_; clear hK K
         refine l_at hF rfl rfl rfl (x_assign rfl) ?_; clear hF; intro a hF
         refine wpList_nil ?_
         refine hK35 _ _ ?_
         refine wp_ret ?_
         try simp only [Exit.then, Exit.inBlock]
         exact fin_ret hF (resct hF rfl rfl rfl (hH.at 2 rfl) ty30 rfl) ⟨⟨0, 0, 0, 0, [], []⟩, none, 0, none, 0, (fun _ => False), 161, rfl, hH.mods, Rd.nil _ _ _, Rd.nil _ _ _, (fun k h => h.elim), DecM.no hz⟩
        ·have hk132_14 := hc132; try simp only [Bool.or_eq_true, Bool.and_eq_true, Bool.or_eq_false_iff, Bool.and_eq_false_iff, Bool.not_eq_true', Bool.not_eq_false', decide_eq_true_eq, decide_eq_false_iff_not, Bool.not_true, Bool.not_false] at hc132
         refine wp_skip ?_
         refine hK31 _ _ ?_
         refine wp_seq_k fun khK36 hK36 => ?_
         refine wp_region_lit ?_
         refine l_at hF rfl rfl rfl (x_loadn ty30 (hF.tmp 12 rfl) rfl (blk_whole (hH.at 12 rfl))) ?_; clear hF; intro a hF
         refine wpList_plain rfl fun K hK => ?_
         refine w_storeA 2 hH ty30 rfl (hF.tmp 2 rfl) (hF.tmp 134 rfl) rfl (by simp [Value.cells, Value.oneCell']) rfl ?_
         clear hH; intro w hH
         refine hK _ _ ?_; clear hK K
         refine l_at hF rfl rfl rfl (x_assign rfl) ?_; clear hF; intro a hF
         refine wpList_nil ?_
         refine hK36 _ _ ?_
         refine wp_ret ?_
         try simp only [Exit.then, Exit.inBlock]
         have hE : encME (zM dl ns cs) = 0 := by first | exact hc132 | exact hc127 | exact hc80 | exact hc60 | exact hc57 | exact hc53 | exact hc48
         have hX : encM (zM dl ns cs) = bs := by first | exact hc132 | exact hc127 | exact hc80 | exact hc60 | exact hc57 | exact hc53 | exact hc48
         exact fin_ret hF (resct hF rfl rfl rfl (hH.at 2 rfl) ty30 rfl) ⟨(zM dl ns cs), An, cn, Ac, cc, (fun k => (Value.slice An ns.length cn).ownBlock = some k ∨ okc k ∨ (Value.slice Ac cs.length cc).ownBlock = some k), 0, rfl, hH.mods, Row.rd (hH.row 60 rfl) (fun k h _ => h.elim) (fun k h => .inl h), Row.rd (hH.row 61 rfl) (fun k h _ => .inr (.inl h)) (fun k h => .inr (.inr h)), (fun k h => by rcases h with h | h | h; exact ⟨(hH.mine 60 _ rfl k h).resolve_left id, hH.inb 60 _ rfl k (.inl h)⟩; exact ⟨hq0_6 k h, hH.inb 61 _ rfl k (.inr h)⟩; exact ⟨(hH.mine 61 _ rfl k h).resolve_left id, hH.inb 61 _ rfl k (.inl h)⟩), ⟨hMB, .inl ⟨rfl, encME0 hE, hX⟩⟩⟩
end Go.Proofs.YtfocpadeflpabaaDoor.Act
