/- There and back, walked. -/
import Derived.Test.YtiiklnghnifmjaaDoorMsgCZb
import Derived.Test.YtiiklnghnifmjaaDoorMdcAZb
set_option linter.unusedVariables false
set_option linter.unusedSimpArgs false
namespace Go.Proofs.YtiiklnghnifmjaaDoor.Act
open Go.RowKit Go.Proofs.YtiiklnghnifmjaaDoor.Sx Go.Proofs.YtiiklnghnifmjaaDoor.Cod Go.Proofs.YtiiklnghnifmjaaDoor.Num
set_option maxRecDepth 100000 in
set_option maxHeartbeats 1000000 in
theorem mBack_calls (w0 : World) (hL : LibAt true w0) {m : MessageD} {okm0 : Nat → Prop} {Am0 : Option Addr} {cm0 : Nat} (hrm0 : Rd (Rep.int .i64) w0 okm0 Am0 m.nodes cm0) {okm1 : Nat → Prop} {Am1 : Option Addr} {cm1 : Nat} (hrm1 : Rd ChgE w0 okm1 Am1 m.changes cm1) (hb : MessageB m) {ok : Nat → Prop} {A : Option Addr} {bs : List Int} {c : Nat} (hrb : Rd (.int .u8) w0 ok A bs c) (hby : Byte bs) : Calls Tryd.prog 9 #[.agg #[.int .i64 m.kind, .int .i64 m.src, .int .i64 m.dst, .int .i64 m.tx, .slice Am0 m.nodes.length cm0, .slice Am1 m.changes.length cm1], .slice A bs.length c] w0 fun e w' => e = .returned (.bool true) ∧ Mods (fun _ => False) w0 w' := by
 refine calls_of_wp Tryd.func9 rfl ?_
 have hF := Fr.enter #[.agg #[.int .i64 m.kind, .int .i64 m.src, .int .i64 m.dst, .int .i64 m.tx, .slice Am0 m.nodes.length cm0, .slice Am1 m.changes.length cm1], .slice A bs.length c] 78 (slotsOf [.agg #[.int .i64 m.kind, .int .i64 m.src, .int .i64 m.dst, .int .i64 m.tx, .slice Am0 m.nodes.length cm0, .slice Am1 m.changes.length cm1], .slice A bs.length c] 0) (Nat.le_of_ble_eq_true rfl) (fun i v h => by have h2 := (get_slotsOf _ 0 i v h).2; simpa only [List.getElem?_toArray, Nat.sub_zero] using h2)
 have hH := Hp.nil (fun _ => False) w0
 rw [Tryd.ntmps9]
 revert hF; generalize (⟨(#[.agg #[.int .i64 m.kind, .int .i64 m.src, .int .i64 m.dst, .int .i64 m.tx, .slice Am0 m.nodes.length cm0, .slice Am1 m.changes.length cm1], .slice A bs.length c] : Array Value) ++ Array.replicate (78 - (#[.agg #[.int .i64 m.kind, .int .i64 m.src, .int .i64 m.dst, .int .i64 m.tx, .slice Am0 m.nodes.length cm0, .slice Am1 m.changes.length cm1], .slice A bs.length c] : Array Value).size) undef, []⟩ : Act) = a; intro hF
 have hH := hH.arg 910 hrm0.all (fun _ h => ⟨h, fun h => h⟩)
 have hlem0 := hrm0.le; unfold maxLen at hlem0
 have hH := hH.arg 911 hrm1.all (fun _ h => ⟨h, fun h => h⟩)
 have hlem1 := hrm1.le; unfold maxLen at hlem1
 have hH := hH.arg 901 hrb.all (fun _ h => ⟨h, fun h => h⟩)
 have hleb := hrb.le; unfold maxLen at hleb
 have hH := hH.libN 990 hL
 refine wp_seq_k fun khK1 hK1 => ?_
 refine wp_region_lit ?_
 refine wpList_plain rfl fun K hK => ?_
 refine w_box 2 hF hH rfl (hF.tmp 0 rfl) ?_
 clear hF hH; intro a w b2 hF hH
 refine hK _ _ ?_; clear hK K
 refine l_at hF rfl rfl rfl (x_assign rfl) ?_; clear hF; intro a hF
 refine wpList_nil ?_
 refine hK1 _ _ ?_
 refine wp_seq_k fun khK2 hK2 => ?_
 refine wp_region_lit ?_
 refine l_at hF rfl rfl rfl (x_loadn ty26 (hF.tmp 2 rfl) rfl (blk_whole (hH.at 2 rfl))) ?_; clear hF; intro a hF
 refine wpList_plain rfl fun K hK => ?_
 refine w_call hF (x_enter Tryd.func11 (by kernel_rfl) rfl (by simp only [List.map_toArray, List.map_cons, List.map_nil, hF.tmp 14 rfl] <;> rfl)) (fitsM_calls _ ((hH.rd 910 rfl)) ((hH.rd 911 rfl))) rfl rfl ?_
 rintro _ w ⟨bf_, rfl, hm_⟩; refine ⟨_, rfl, ?_⟩; clear hF; intro a hF; have hH := hH.same hm_
 refine hK _ _ ?_; clear hK K
 refine l_at hF rfl rfl rfl (x_assign (hF.tmp 15 rfl)) ?_; clear hF; intro a hF
 refine wpList_nil ?_
 refine hK2 _ _ ?_
 refine wp_seq_k fun khK3 hK3 => ?_
 refine wp_seq_k fun khK4 hK4 => ?_
 refine wp_region_lit ?_
 refine l_at hF rfl rfl rfl (x_move (hF.tmp 5 rfl)) ?_; clear hF; intro a hF
 refine l_at hF rfl rfl rfl (x_not (hF.tmp 16 rfl)) ?_; clear hF; intro a hF
 refine l_at hF rfl rfl rfl (x_move (hF.tmp 17 rfl)) ?_; clear hF; intro a hF
 refine split_bool hF 18 rfl (fun hb18 => ?_) (fun hb18 => ?_)
 ·have hc18 := hb18; try simp only [Bool.or_eq_true, Bool.and_eq_true, Bool.or_eq_false_iff, Bool.and_eq_false_iff, Bool.not_eq_true', Bool.not_eq_false', decide_eq_true_eq, decide_eq_false_iff_not, Bool.not_true, Bool.not_false] at hc18
  refine l_offg hF ((wanted_of hF rfl rfl rfl rfl).trans (by rw [hb18]; rfl)) rfl rfl ?_; clear hF; intro a hF
  refine l_offg hF ((wanted_of hF rfl rfl rfl rfl).trans (by rw [hb18]; rfl)) rfl rfl ?_; clear hF; intro a hF
  refine l_offg hF ((wanted_of hF rfl rfl rfl rfl).trans (by rw [hb18]; rfl)) rfl rfl ?_; clear hF; intro a hF
  refine l_at hF rfl rfl rfl (x_pickT (hF.tmp 18 rfl) hb18 rfl) ?_; clear hF; intro a hF
  refine wpList_nil ?_
  refine hK4 _ _ ?_
  refine wp_cond_true (hF.tmp 22 rfl) ?_
  refine wp_seq_k fun khK5 hK5 => ?_
  refine wp_region_lit ?_
  refine wpList_plain rfl fun K hK => ?_
  refine w_call hF (x_enter Tryd.func13 (by kernel_rfl) rfl (by simp only [List.map_toArray, List.map_cons, List.map_nil] <;> rfl)) (malive_calls _ (hH.holds 990 _ rfl)) rfl rfl ?_
  rintro _ w ⟨rfl, hm_⟩; refine ⟨_, rfl, ?_⟩; clear hF; intro a hF; have hH := hH.same hm_
  refine hK _ _ ?_; clear hK K
  refine l_at hF rfl rfl rfl (x_assign (hF.tmp 23 rfl)) ?_; clear hF; intro a hF
  refine wpList_nil ?_
  refine hK5 _ _ ?_
  refine wp_ret ?_
  try simp only [Exit.then, Exit.inBlock]
  exact fin_ret hF (res1 (v := .bool true) hF rfl rfl) ⟨rfl, hH.mods⟩
 ·have hc18 := hb18; try simp only [Bool.or_eq_true, Bool.and_eq_true, Bool.or_eq_false_iff, Bool.and_eq_false_iff, Bool.not_eq_true', Bool.not_eq_false', decide_eq_true_eq, decide_eq_false_iff_not, Bool.not_true, Bool.not_false] at hc18
  refine l_atg hF ((wanted_of hF rfl rfl rfl rfl).trans (by rw [hb18]; rfl)) rfl rfl (x_move (hF.tmp 1 rfl)) ?_; clear hF; intro a hF
  refine l_atg hF ((wanted_of hF rfl rfl rfl rfl).trans (by rw [hb18]; rfl)) rfl rfl (x_len_slice Tryd.underlying28 (hF.tmp 19 rfl)) ?_; clear hF; intro a hF
  refine l_atg hF ((wanted_of hF rfl rfl rfl rfl).trans (by rw [hb18]; rfl)) rfl rfl (x_gtr (hF.tmp 20 rfl) rfl) ?_; clear hF; intro a hF
  refine l_at hF rfl rfl rfl (x_pickF (hF.tmp 18 rfl) hb18 (hF.tmp 21 rfl)) ?_; clear hF; intro a hF
  refine wpList_nil ?_
  refine hK4 _ _ ?_
  refine wp_cond_split (hF.tmp 22 rfl) (fun hc22 => ?_) (fun hc22 => ?_)
  ·have hk22_1 := hc22; try simp only [Bool.or_eq_true, Bool.and_eq_true, Bool.or_eq_false_iff, Bool.and_eq_false_iff, Bool.not_eq_true', Bool.not_eq_false', decide_eq_true_eq, decide_eq_false_iff_not, Bool.not_true, Bool.not_false] at hc22
   refine wp_seq_k fun khK6 hK6 => ?_
   refine wp_region_lit ?_
   refine wpList_plain rfl fun K hK => ?_
   refine w_call hF (x_enter Tryd.func13 (by kernel_rfl) rfl (by simp only [List.map_toArray, List.map_cons, List.map_nil] <;> rfl)) (malive_calls _ (hH.holds 990 _ rfl)) rfl rfl ?_
   rintro _ w ⟨rfl, hm_⟩; refine ⟨_, rfl, ?_⟩; clear hF; intro a hF; have hH := hH.same hm_
   refine hK _ _ ?_; clear hK K
   refine l_at hF rfl rfl rfl (x_assign (hF.tmp 23 rfl)) ?_; clear hF; intro a hF
   refine wpList_nil ?_
   refine hK6 _ _ ?_
   refine wp_ret ?_
   try simp only [Exit.then, Exit.inBlock]
   exact fin_ret hF (res1 (v := .bool true) hF rfl rfl) ⟨rfl, hH.mods⟩
  ·have hk22_2 := hc22; try simp only [Bool.or_eq_true, Bool.and_eq_true, Bool.or_eq_false_iff, Bool.and_eq_false_iff, Bool.not_eq_true', Bool.not_eq_false', decide_eq_true_eq, decide_eq_false_iff_not, Bool.not_true, Bool.not_false] at hc22
   refine wp_skip ?_
   refine hK3 _ _ ?_
   refine wp_seq_k fun khK7 hK7 => ?_
   refine wp_region_lit ?_
   refine l_at hF rfl rfl rfl (x_move (hF.tmp 1 rfl)) ?_; clear hF; intro a hF
   refine wpList_plain rfl fun K hK => ?_
   refine w_call hF (x_enter Tryd.func35 (by kernel_rfl) rfl (by simp only [List.map_toArray, List.map_cons, List.map_nil, hF.tmp 25 rfl] <;> rfl)) (decM_calls (bs := bs) _ (hH.holds 990 _ rfl) ((hH.rd 901 rfl)) hby) rfl rfl ?_
   rintro _ w ⟨z, An70, cn70, Ac70, cc70, okz70, g70, rfl, hm_, h1_, h2_, hf_, hD70⟩; refine ⟨_, rfl, ?_⟩; clear hF; intro a hF; have h3_ := (hH.same hm_).rdNew 70 (fun i A' hA k hk => hH.inb i A' hA k (.inl hk)) h1_ hf_; have hH := (h3_.1.rdNew 71 h3_.2 h2_ hf_).1
   refine hK _ _ ?_; clear hK K
   refine l_at hF rfl rfl rfl (x_move (hF.tmp 26 rfl)) ?_; clear hF; intro a hF
   refine l_at hF rfl rfl rfl (x_extract (hF.tmp 24 rfl) rfl) ?_; clear hF; intro a hF
   refine l_at hF rfl rfl rfl (x_extract (hF.tmp 24 rfl) rfl) ?_; clear hF; intro a hF
   refine wpList_plain rfl fun K hK => ?_
   refine w_alloc 6 hF hH rfl ty26 ?_
   clear hF hH; intro a w b6 hF hH
   refine hK _ _ ?_; clear hK K
   refine wpList_plain rfl fun K hK => ?_
   refine w_storeA 6 hH ty26 rfl (hF.tmp 6 rfl) (hF.tmp 27 rfl) rfl (by simp [Value.cells, Value.oneCell']) rfl ?_
   clear hH; intro w hH
   refine hK _ _ ?_; clear hK K
   refine l_at hF rfl rfl rfl (x_assign (hF.tmp 28 rfl)) ?_; clear hF; intro a hF
   refine wpList_nil ?_
   refine hK7 _ _ ?_
   refine wp_seq_k fun khK8 hK8 => ?_
   refine wp_seq_k fun khK9 hK9 => ?_
   refine wp_region_lit ?_
   refine l_at hF rfl rfl rfl (x_move (hF.tmp 7 rfl)) ?_; clear hF; intro a hF
   refine l_at hF rfl rfl rfl (x_eql (hF.tmp 29 rfl) rfl) ?_; clear hF; intro a hF
   refine wpList_nil ?_
   refine hK9 _ _ ?_
   refine wp_cond_split (hF.tmp 30 rfl) (fun hc30 => ?_) (fun hc30 => ?_)
   ·have hk30_3 := hc30; try simp only [Bool.or_eq_true, Bool.and_eq_true, Bool.or_eq_false_iff, Bool.and_eq_false_iff, Bool.not_eq_true', Bool.not_eq_false', decide_eq_true_eq, decide_eq_false_iff_not, Bool.not_true, Bool.not_false] at hc30
    have hrz := hD70.yes hc30
    refine wp_seq_k fun khK10 hK10 => ?_
    refine wp_region_lit ?_
    refine l_at hF rfl rfl rfl (x_loadn ty26 (hF.tmp 6 rfl) rfl (blk_whole (hH.at 6 rfl))) ?_; clear hF; intro a hF
    refine wpList_plain rfl fun K hK => ?_
    refine w_call hF (x_enter Tryd.func12 (by kernel_rfl) rfl (by simp only [List.map_toArray, List.map_cons, List.map_nil, hF.tmp 32 rfl] <;> rfl)) (encM_calls (m := z) _ (hH.holds 990 _ rfl) ((hH.rd 70 rfl)) ((hH.rd 71 rfl)) hD70.1) rfl rfl ?_
    rintro _ w ⟨vr33, rfl, hm_, hr_⟩; refine ⟨_, rfl, ?_⟩; clear hF; intro a hF; have hH := Hp.rowOut hH 33 hm_ hr_; obtain ⟨Ar33, cr33, rfl⟩ := (hH.row 33 rfl).form
    refine hK _ _ ?_; clear hK K
    refine l_at hF rfl rfl rfl (x_move (hF.tmp 33 rfl)) ?_; clear hF; intro a hF
    refine l_at hF rfl rfl rfl (x_extract (hF.tmp 31 rfl) rfl) ?_; clear hF; intro a hF
    refine l_at hF rfl rfl rfl (x_extract (hF.tmp 31 rfl) rfl) ?_; clear hF; intro a hF
    refine l_at hF rfl rfl rfl (x_assign (hF.tmp 34 rfl)) ?_; clear hF; intro a hF
    refine l_at hF rfl rfl rfl (x_assign (hF.tmp 35 rfl)) ?_; clear hF; intro a hF
    refine wpList_nil ?_
    refine hK10 _ _ ?_
    refine wp_seq_k fun khK11 hK11 => ?_
    refine wp_region_lit ?_
    rw [encME_yes hrz.1] at hF
    refine l_at hF rfl rfl rfl (x_move (hF.tmp 9 rfl)) ?_; clear hF; intro a hF
    refine l_at hF rfl rfl rfl (x_neq (hF.tmp 36 rfl) rfl) ?_; clear hF; intro a hF
    refine l_at hF rfl rfl rfl (x_move (hF.tmp 37 rfl)) ?_; clear hF; intro a hF
    refine l_atg hF ((wanted_of hF rfl rfl rfl rfl).trans rfl) rfl rfl (x_move (hF.tmp 8 rfl)) ?_; clear hF; intro a hF
    refine l_atg hF ((wanted_of hF rfl rfl rfl rfl).trans rfl) rfl rfl (x_b2s Tryd.underlying28 Tryd.underlying5 Tryd.underlying9 (Row.rd (ok' := fun k_ => (fun _ => False) k_ ∨ (.slice Ar33 (encM z).length cr33 : Value).ownBlock = some k_) (hH.row 33 rfl) (fun _ hk_ _ => .inl hk_) (fun _ hk_ => .inr hk_)) (hF.tmp 39 rfl)) ?_; clear hF; intro a hF
    refine l_atg hF ((wanted_of hF rfl rfl rfl rfl).trans rfl) rfl rfl (x_move (hF.tmp 1 rfl)) ?_; clear hF; intro a hF
    refine l_atg hF ((wanted_of hF rfl rfl rfl rfl).trans rfl) rfl rfl (x_b2s Tryd.underlying28 Tryd.underlying5 Tryd.underlying9 ((hH.rd 901 rfl)) (hF.tmp 41 rfl)) ?_; clear hF; intro a hF
    refine l_atg hF ((wanted_of hF rfl rfl rfl rfl).trans rfl) rfl rfl (x_nen (xs := (encM z)) (ys := bs) (hF.tmp 40 rfl) (hF.tmp 42 rfl) (encM_byte hD70.1) hby) ?_; clear hF; intro a hF
    rw [decide_eq_true hrz.2] at hF
    refine l_at hF rfl rfl rfl (x_pickF (hF.tmp 38 rfl) rfl (hF.tmp 43 rfl)) ?_; clear hF; intro a hF
    refine l_at hF rfl rfl rfl (x_move (hF.tmp 44 rfl)) ?_; clear hF; intro a hF
    refine l_atg hF ((wanted_of hF rfl rfl rfl rfl).trans rfl) rfl rfl (x_loadn ty26 (hF.tmp 6 rfl) rfl (blk_whole (hH.at 6 rfl))) ?_; clear hF; intro a hF
    refine wpList_on ((wanted_of hF rfl rfl rfl rfl).trans rfl) fun K hK => ?_
    refine w_call hF (x_enter Tryd.func36 (by kernel_rfl) rfl (by simp only [List.map_toArray, List.map_cons, List.map_nil, hF.tmp 46 rfl] <;> rfl)) (rightM_calls (m := z) _ (hH.holds 990 _ rfl) ((hH.rd 70 rfl)) ((hH.rd 71 rfl)) hD70.1) rfl rfl ?_
    rintro _ w ⟨rfl, hm_⟩; refine ⟨_, rfl, ?_⟩; clear hF; intro a hF; have hH := hH.same hm_
    refine hK _ _ ?_; clear hK K
    rw [hrz.1] at hF
    refine l_atg hF ((wanted_of hF rfl rfl rfl rfl).trans rfl) rfl rfl (x_not (hF.tmp 47 rfl)) ?_; clear hF; intro a hF
    refine l_at hF rfl rfl rfl (x_pickF (hF.tmp 45 rfl) rfl (hF.tmp 48 rfl)) ?_; clear hF; intro a hF
    refine wpList_nil ?_
    refine hK11 _ _ ?_
    refine wp_cond_false (hF.tmp 49 rfl) ?_
    refine wp_skip ?_
    refine hK8 _ _ ?_
    refine wp_seq_k fun khK12 hK12 => ?_
    refine wp_region_lit ?_
    refine l_at hF rfl rfl rfl (x_loadn ty26 (hF.tmp 2 rfl) rfl (blk_whole (hH.at 2 rfl))) ?_; clear hF; intro a hF
    refine wpList_plain rfl fun K hK => ?_
    refine w_call hF (x_enter Tryd.func12 (by kernel_rfl) rfl (by simp only [List.map_toArray, List.map_cons, List.map_nil, hF.tmp 51 rfl] <;> rfl)) (encM_calls (m := m) _ (hH.holds 990 _ rfl) ((hH.rd 910 rfl)) ((hH.rd 911 rfl)) hb) rfl rfl ?_
    rintro _ w ⟨vr52, rfl, hm_, hr_⟩; refine ⟨_, rfl, ?_⟩; clear hF; intro a hF; have hH := Hp.rowOut hH 52 hm_ hr_; obtain ⟨Ar52, cr52, rfl⟩ := (hH.row 52 rfl).form
    refine hK _ _ ?_; clear hK K
    refine l_at hF rfl rfl rfl (x_move (hF.tmp 52 rfl)) ?_; clear hF; intro a hF
    refine l_at hF rfl rfl rfl (x_extract (hF.tmp 50 rfl) rfl) ?_; clear hF; intro a hF
    refine l_at hF rfl rfl rfl (x_extract (hF.tmp 50 rfl) rfl) ?_; clear hF; intro a hF
    refine l_at hF rfl rfl rfl (x_assign (hF.tmp 53 rfl)) ?_; clear hF; intro a hF
    refine l_at hF rfl rfl rfl (x_assign (hF.tmp 54 rfl)) ?_; clear hF; intro a hF
    refine wpList_nil ?_
    refine hK12 _ _ ?_
    refine wp_seq_k fun khK13 hK13 => ?_
    refine wp_seq_k fun khK14 hK14 => ?_
    refine wp_region_lit ?_
    refine l_at hF rfl rfl rfl (x_move (hF.tmp 11 rfl)) ?_; clear hF; intro a hF
    refine l_at hF rfl rfl rfl (x_neq (hF.tmp 55 rfl) rfl) ?_; clear hF; intro a hF
    refine wpList_nil ?_
    refine hK14 _ _ ?_
    refine wp_cond_split (hF.tmp 56 rfl) (fun hc56 => ?_) (fun hc56 => ?_)
    ·have hk56_4 := hc56; try simp only [Bool.or_eq_true, Bool.and_eq_true, Bool.or_eq_false_iff, Bool.and_eq_false_iff, Bool.not_eq_true', Bool.not_eq_false', decide_eq_true_eq, decide_eq_false_iff_not, Bool.not_true, Bool.not_false] at hc56
     have hr0 := encME_ne (m := m) hc56
     refine wp_seq_k fun khK15 hK15 => ?_
     refine wp_region_lit ?_
     refine wpList_plain rfl fun K hK => ?_
     refine w_call hF (x_enter Tryd.func13 (by kernel_rfl) rfl (by simp only [List.map_toArray, List.map_cons, List.map_nil] <;> rfl)) (malive_calls _ (hH.holds 990 _ rfl)) rfl rfl ?_
     rintro _ w ⟨rfl, hm_⟩; refine ⟨_, rfl, ?_⟩; clear hF; intro a hF; have hH := hH.same hm_
     refine hK _ _ ?_; clear hK K
     refine l_at hF rfl rfl rfl (x_move (hF.tmp 57 rfl)) ?_; clear hF; intro a hF
     refine l_atg hF ((wanted_of hF rfl rfl rfl rfl).trans rfl) rfl rfl (x_loadn ty26 (hF.tmp 2 rfl) rfl (blk_whole (hH.at 2 rfl))) ?_; clear hF; intro a hF
     refine wpList_on ((wanted_of hF rfl rfl rfl rfl).trans rfl) fun K hK => ?_
     refine w_call hF (x_enter Tryd.func36 (by kernel_rfl) rfl (by simp only [List.map_toArray, List.map_cons, List.map_nil, hF.tmp 59 rfl] <;> rfl)) (rightM_calls (m := m) _ (hH.holds 990 _ rfl) ((hH.rd 910 rfl)) ((hH.rd 911 rfl)) hb) rfl rfl ?_
     rintro _ w ⟨rfl, hm_⟩; refine ⟨_, rfl, ?_⟩; clear hF; intro a hF; have hH := hH.same hm_
     refine hK _ _ ?_; clear hK K
     rw [hr0] at hF
     refine l_atg hF ((wanted_of hF rfl rfl rfl rfl).trans rfl) rfl rfl (x_not (hF.tmp 60 rfl)) ?_; clear hF; intro a hF
     refine l_at hF rfl rfl rfl (x_pickT (hF.tmp 58 rfl) rfl (hF.tmp 61 rfl)) ?_; clear hF; intro a hF
     refine l_at hF rfl rfl rfl (x_assign (hF.tmp 62 rfl)) ?_; clear hF; intro a hF
     refine wpList_nil ?_
     refine hK15 _ _ ?_
     refine wp_ret ?_
     try simp only [Exit.then, Exit.inBlock]
     exact fin_ret hF (res1 (v := .bool true) hF rfl rfl) ⟨rfl, hH.mods⟩
    ·have hk56_5 := hc56; try simp only [Bool.or_eq_true, Bool.and_eq_true, Bool.or_eq_false_iff, Bool.and_eq_false_iff, Bool.not_eq_true', Bool.not_eq_false', decide_eq_true_eq, decide_eq_false_iff_not, Bool.not_true, Bool.not_false] at hc56
     have hr := encME0 (m := m) hc56
     refine wp_skip ?_
     refine hK13 _ _ ?_
     refine wp_seq_k fun khK16 hK16 => ?_
     refine wp_region_lit ?_
     refine l_at hF rfl rfl rfl (x_move (hF.tmp 10 rfl)) ?_; clear hF; intro a hF
     refine wpList_plain rfl fun K hK => ?_
     refine w_call hF (x_enter Tryd.func35 (by kernel_rfl) rfl (by simp only [List.map_toArray, List.map_cons, List.map_nil, hF.tmp 64 rfl] <;> rfl)) (decM_calls (bs := (encM m)) _ (hH.holds 990 _ rfl) (Row.rd (ok' := fun k_ => (fun _ => False) k_ ∨ (.slice Ar52 (encM m).length cr52 : Value).ownBlock = some k_) (hH.row 52 rfl) (fun _ hk_ _ => .inl hk_) (fun _ hk_ => .inr hk_)) (encM_byte hb)) rfl rfl ?_
     rintro _ w ⟨y, An80, cn80, Ac80, cc80, okz80, g80, rfl, hm_, h1_, h2_, hf_, hD80⟩; refine ⟨_, rfl, ?_⟩; clear hF; intro a hF; have h3_ := (hH.same hm_).rdNew 80 (fun i A' hA k hk => hH.inb i A' hA k (.inl hk)) h1_ hf_; have hH := (h3_.1.rdNew 81 h3_.2 h2_ hf_).1
     refine hK _ _ ?_; clear hK K
     refine l_at hF rfl rfl rfl (x_move (hF.tmp 65 rfl)) ?_; clear hF; intro a hF
     refine l_at hF rfl rfl rfl (x_extract (hF.tmp 63 rfl) rfl) ?_; clear hF; intro a hF
     refine l_at hF rfl rfl rfl (x_extract (hF.tmp 63 rfl) rfl) ?_; clear hF; intro a hF
     refine wpList_plain rfl fun K hK => ?_
     refine w_alloc 12 hF hH rfl ty26 ?_
     clear hF hH; intro a w b12 hF hH
     refine hK _ _ ?_; clear hK K
     refine wpList_plain rfl fun K hK => ?_
     refine w_storeA 12 hH ty26 rfl (hF.tmp 12 rfl) (hF.tmp 66 rfl) rfl (by simp [Value.cells, Value.oneCell']) rfl ?_
     clear hH; intro w hH
     refine hK _ _ ?_; clear hK K
     refine l_at hF rfl rfl rfl (x_assign (hF.tmp 67 rfl)) ?_; clear hF; intro a hF
     refine wpList_nil ?_
     refine hK16 _ _ ?_
     refine wp_seq_k fun khK17 hK17 => ?_
     refine wp_region_lit ?_
     have hy := hD80.of hr hb rfl
     refine wpList_plain rfl fun K hK => ?_
     refine w_call hF (x_enter Tryd.func13 (by kernel_rfl) rfl (by simp only [List.map_toArray, List.map_cons, List.map_nil] <;> rfl)) (malive_calls _ (hH.holds 990 _ rfl)) rfl rfl ?_
     rintro _ w ⟨rfl, hm_⟩; refine ⟨_, rfl, ?_⟩; clear hF; intro a hF; have hH := hH.same hm_
     refine hK _ _ ?_; clear hK K
     refine l_at hF rfl rfl rfl (x_move (hF.tmp 68 rfl)) ?_; clear hF; intro a hF
     refine l_atg hF ((wanted_of hF rfl rfl rfl rfl).trans rfl) rfl rfl (x_move (hF.tmp 13 rfl)) ?_; clear hF; intro a hF
     refine l_atg hF ((wanted_of hF rfl rfl rfl rfl).trans rfl) rfl rfl (x_eql (hF.tmp 70 rfl) rfl) ?_; clear hF; intro a hF
     rw [decide_eq_true hy.1] at hF
     refine l_at hF rfl rfl rfl (x_pickT (hF.tmp 69 rfl) rfl (hF.tmp 71 rfl)) ?_; clear hF; intro a hF
     refine l_at hF rfl rfl rfl (x_move (hF.tmp 72 rfl)) ?_; clear hF; intro a hF
     refine l_atg hF ((wanted_of hF rfl rfl rfl rfl).trans rfl) rfl rfl (x_loadn ty26 (hF.tmp 12 rfl) rfl (blk_whole (hH.at 12 rfl))) ?_; clear hF; intro a hF
     refine l_atg hF ((wanted_of hF rfl rfl rfl rfl).trans rfl) rfl rfl (x_loadn ty26 (hF.tmp 2 rfl) rfl (blk_whole (hH.at 2 rfl))) ?_; clear hF; intro a hF
     refine wpList_on ((wanted_of hF rfl rfl rfl rfl).trans rfl) fun K hK => ?_
     refine w_call hF (x_enter Tryd.func16 (by kernel_rfl) rfl (by simp only [List.map_toArray, List.map_cons, List.map_nil, hF.tmp 74 rfl, hF.tmp 75 rfl] <;> rfl)) (same_calls _ ((hH.rd 80 rfl)) ((hH.rd 81 rfl)) ((hH.rd 910 rfl)) ((hH.rd 911 rfl)) hD80.1 hb) rfl rfl ?_
     rintro _ w ⟨rfl, hm_⟩; refine ⟨_, rfl, ?_⟩; clear hF; intro a hF; have hH := hH.same hm_
     refine hK _ _ ?_; clear hK K
     rw [decide_eq_true hy.2] at hF
     refine l_at hF rfl rfl rfl (x_pickT (hF.tmp 73 rfl) rfl (hF.tmp 76 rfl)) ?_; clear hF; intro a hF
     refine l_at hF rfl rfl rfl (x_assign (hF.tmp 77 rfl)) ?_; clear hF; intro a hF
     refine wpList_nil ?_
     refine hK17 _ _ ?_
     refine wp_ret ?_
     try simp only [Exit.then, Exit.inBlock]
     exact fin_ret hF (res1 (v := .bool true) hF rfl rfl) ⟨rfl, hH.mods⟩
   ·have hk30_6 := hc30; try simp only [Bool.or_eq_true, Bool.and_eq_true, Bool.or_eq_false_iff, Bool.and_eq_false_iff, Bool.not_eq_true', Bool.not_eq_false', decide_eq_true_eq, decide_eq_false_iff_not, Bool.not_true, Bool.not_false] at hc30
    refine wp_skip ?_
    refine hK8 _ _ ?_
    refine wp_seq_k fun khK18 hK18 => ?_
    refine wp_region_lit ?_
    refine l_at hF rfl rfl rfl (x_loadn ty26 (hF.tmp 2 rfl) rfl (blk_whole (hH.at 2 rfl))) ?_; clear hF; intro a hF
    refine wpList_plain rfl fun K hK => ?_
    refine w_call hF (x_enter Tryd.func12 (by kernel_rfl) rfl (by simp only [List.map_toArray, List.map_cons, List.map_nil, hF.tmp 51 rfl] <;> rfl)) (encM_calls (m := m) _ (hH.holds 990 _ rfl) ((hH.rd 910 rfl)) ((hH.rd 911 rfl)) hb) rfl rfl ?_
    rintro _ w ⟨vr52, rfl, hm_, hr_⟩; refine ⟨_, rfl, ?_⟩; clear hF; intro a hF; have hH := Hp.rowOut hH 52 hm_ hr_; obtain ⟨Ar52, cr52, rfl⟩ := (hH.row 52 rfl).form
    refine hK _ _ ?_; clear hK K
    refine l_at hF rfl rfl rfl (x_move (hF.tmp 52 rfl)) ?_; clear hF; intro a hF
    refine l_at hF rfl rfl rfl (x_extract (hF.tmp 50 rfl) rfl) ?_; clear hF; intro a hF
    refine l_at hF rfl rfl rfl (x_extract (hF.tmp 50 rfl) rfl) ?_; clear hF; intro a hF
    refine l_at hF rfl rfl rfl (x_assign (hF.tmp 53 rfl)) ?_; clear hF; intro a hF
    refine l_at hF rfl rfl rfl (x_assign (hF.tmp 54 rfl)) ?_; clear hF; intro a hF
    refine wpList_nil ?_
    refine hK18 _ _ ?_
    refine wp_seq_k fun khK19 hK19 => ?_
    refine wp_seq_k fun khK20 hK20 => ?_
    refine wp_region_lit ?_
    refine l_at hF rfl rfl rfl (x_move (hF.tmp 11 rfl)) ?_; clear hF; intro a hF
    refine l_at hF rfl rfl rfl (x_neq (hF.tmp 55 rfl) rfl) ?_; clear hF; intro a hF
    refine wpList_nil ?_
    refine hK20 _ _ ?_
    refine wp_cond_split (hF.tmp 56 rfl) (fun hc56 => ?_) (fun hc56 => ?_)
    ·have hk56_7 := hc56; try simp only [Bool.or_eq_true, Bool.and_eq_true, Bool.or_eq_false_iff, Bool.and_eq_false_iff, Bool.not_eq_true', Bool.not_eq_false', decide_eq_true_eq, decide_eq_false_iff_not, Bool.not_true, Bool.not_false] at hc56
     have hr0 := encME_ne (m := m) hc56
     refine wp_seq_k fun khK21 hK21 => ?_
     refine wp_region_lit ?_
     refine wpList_plain rfl fun K hK => ?_
     refine w_call hF (x_enter Tryd.func13 (by kernel_rfl) rfl (by simp only [List.map_toArray, List.map_cons, List.map_nil] <;> rfl)) (malive_calls _ (hH.holds 990 _ rfl)) rfl rfl ?_
     rintro _ w ⟨rfl, hm_⟩; refine ⟨_, rfl, ?_⟩; clear hF; intro a hF; have hH := hH.same hm_
     refine hK _ _ ?_; clear hK K
     refine l_at hF rfl rfl rfl (x_move (hF.tmp 57 rfl)) ?_; clear hF; intro a hF
     refine l_atg hF ((wanted_of hF rfl rfl rfl rfl).trans rfl) rfl rfl (x_loadn ty26 (hF.tmp 2 rfl) rfl (blk_whole (hH.at 2 rfl))) ?_; clear hF; intro a hF
     refine wpList_on ((wanted_of hF rfl rfl rfl rfl).trans rfl) fun K hK => ?_
     refine w_call hF (x_enter Tryd.func36 (by kernel_rfl) rfl (by simp only [List.map_toArray, List.map_cons, List.map_nil, hF.tmp 59 rfl] <;> rfl)) (rightM_calls (m := m) _ (hH.holds 990 _ rfl) ((hH.rd 910 rfl)) ((hH.rd 911 rfl)) hb) rfl rfl ?_
     rintro _ w ⟨rfl, hm_⟩; refine ⟨_, rfl, ?_⟩; clear hF; intro a hF; have hH := hH.same hm_
     refine hK _ _ ?_; clear hK K
     rw [hr0] at hF
     refine l_atg hF ((wanted_of hF rfl rfl rfl rfl).trans rfl) rfl rfl (x_not (hF.tmp 60 rfl)) ?_; clear hF; intro a hF
     refine l_at hF rfl rfl rfl (x_pickT (hF.tmp 58 rfl) rfl (hF.tmp 61 rfl)) ?_; clear hF; intro a hF
     refine l_at hF rfl rfl rfl (x_assign (hF.tmp 62 rfl)) ?_; clear hF; intro a hF
     refine wpList_nil ?_
     refine hK21 _ _ ?_
     refine wp_ret ?_
     try simp only [Exit.then, Exit.inBlock]
     exact fin_ret hF (res1 (v := .bool true) hF rfl rfl) ⟨rfl, hH.mods⟩
    ·have hk56_8 := hc56; try simp only [Bool.or_eq_true, Bool.and_eq_true, Bool.or_eq_false_iff, Bool.and_eq_false_iff, Bool.not_eq_true', Bool.not_eq_false', decide_eq_true_eq, decide_eq_false_iff_not, Bool.not_true, Bool.not_false] at hc56
     have hr := encME0 (m := m) hc56
     refine wp_skip ?_
     refine hK19 _ _ ?_
     refine wp_seq_k fun khK22 hK22 => ?_
     refine wp_region_lit ?_
     refine l_at hF rfl rfl rfl (x_move (hF.tmp 10 rfl)) ?_; clear hF; intro a hF
     refine wpList_plain rfl fun K hK => ?_
     refine w_call hF (x_enter Tryd.func35 (by kernel_rfl) rfl (by simp only [List.map_toArray, List.map_cons, List.map_nil, hF.tmp 64 rfl] <;> rfl)) (decM_calls (bs := (encM m)) _ (hH.holds 990 _ rfl) (Row.rd (ok' := fun k_ => (fun _ => False) k_ ∨ (.slice Ar52 (encM m).length cr52 : Value).ownBlock = some k_) (hH.row 52 rfl) (fun _ hk_ _ => .inl hk_) (fun _ hk_ => .inr hk_)) (encM_byte hb)) rfl rfl ?_
     rintro _ w ⟨y, An80, cn80, Ac80, cc80, okz80, g80, rfl, hm_, h1_, h2_, hf_, hD80⟩; refine ⟨_, rfl, ?_⟩; clear hF; intro a hF; have h3_ := (hH.same hm_).rdNew 80 (fun i A' hA k hk => hH.inb i A' hA k (.inl hk)) h1_ hf_; have hH := (h3_.1.rdNew 81 h3_.2 h2_ hf_).1
     refine hK _ _ ?_; clear hK K
     refine l_at hF rfl rfl rfl (x_move (hF.tmp 65 rfl)) ?_; clear hF; intro a hF
     refine l_at hF rfl rfl rfl (x_extract (hF.tmp 63 rfl) rfl) ?_; clear hF; intro a hF
     refine l_at hF rfl rfl rfl (x_extract (hF.tmp 63 rfl) rfl) ?_; clear hF; intro a hF
     refine wpList_plain rfl fun K hK => ?_
     refine w_alloc 12 hF hH rfl ty26 ?_
     clear hF hH; intro a w b12 hF hH
     refine hK _ _ ?_; clear hK K
     refine wpList_plain rfl fun K hK => ?_
     refine w_storeA 12 hH ty26 rfl (hF.tmp 12 rfl) (hF.tmp 66 rfl) rfl (by simp [Value.cells, Value.oneCell']) rfl ?_
     clear hH; intro w hH
     refine hK _ _ ?_; clear hK K
     refine l_at hF rfl rfl rfl (x_assign (hF.tmp 67 rfl)) ?_; clear hF; intro a hF
     refine wpList_nil ?_
     refine hK22 _ _ ?_
     refine wp_seq_k fun khK23 hK23 => ?_
     refine wp_region_lit ?_
     have hy := hD80.of hr hb rfl
     refine wpList_plain rfl fun K hK => ?_
     refine w_call hF (x_enter Tryd.func13 (by kernel_rfl) rfl (by simp only [List.map_toArray, List.map_cons, List.map_nil] <;> rfl)) (malive_calls _ (hH.holds 990 _ rfl)) rfl rfl ?_
     rintro _ w ⟨rfl, hm_⟩; refine ⟨_, rfl, ?_⟩; clear hF; intro a hF; have hH := hH.same hm_
     refine hK _ _ ?_; clear hK K
     refine l_at hF rfl rfl rfl (x_move (hF.tmp 68 rfl)) ?_; clear hF; intro a hF
     refine l_atg hF ((wanted_of hF rfl rfl rfl rfl).trans rfl) rfl rfl (x_move (hF.tmp 13 rfl)) ?_; clear hF; intro a hF
     refine l_atg hF ((wanted_of hF rfl rfl rfl rfl).trans rfl) rfl rfl (x_eql (hF.tmp 70 rfl) rfl) ?_; clear hF; intro a hF
     rw [decide_eq_true hy.1] at hF
     refine l_at hF rfl rfl rfl (x_pickT (hF.tmp 69 rfl) rfl (hF.tmp 71 rfl)) ?_; clear hF; intro a hF
     refine l_at hF rfl rfl rfl (x_move (hF.tmp 72 rfl)) ?_; clear hF; intro a hF
     refine l_atg hF ((wanted_of hF rfl rfl rfl rfl).trans rfl) rfl rfl (x_loadn ty26 (hF.tmp 12 rfl) rfl (blk_whole (hH.at 12 rfl))) ?_; clear hF; intro a hF
     refine l_atg hF ((wanted_of hF rfl rfl rfl rfl).trans rfl) rfl rfl (x_loadn ty26 (hF.tmp 2 rfl) rfl (blk_whole (hH.at 2 rfl))) ?_; clear hF; intro a hF
     refine wpList_on ((wanted_of hF rfl rfl rfl rfl).trans rfl) fun K hK => ?_
     refine w_call hF (x_enter Tryd.func16 (by kernel_rfl) rfl (by simp only [List.map_toArray, List.map_cons, List.map_nil, hF.tmp 74 rfl, hF.tmp 75 rfl] <;> rfl)) (same_calls _ ((hH.rd 80 rfl)) ((hH.rd 81 rfl)) ((hH.rd 910 rfl)) ((hH.rd 911 rfl)) hD80.1 hb) rfl rfl ?_
     rintro _ w ⟨rfl, hm_⟩; refine ⟨_, rfl, ?_⟩; clear hF; intro a hF; have hH := hH.same hm_
     refine hK _ _ ?_; clear hK K
     rw [decide_eq_true hy.2] at hF
     refine l_at hF rfl rfl rfl (x_pickT (hF.tmp 73 rfl) rfl (hF.tmp 76 rfl)) ?_; clear hF; intro a hF
     refine l_at hF rfl rfl rfl (x_assign (hF.tmp 77 rfl)) ?_; clear hF; intro a hF
     refine wpList_nil ?_
     refine hK23 _ _ ?_
     refine wp_ret ?_
     try simp only [Exit.then, Exit.inBlock]
     exact fin_ret hF (res1 (v := .bool true) hF rfl rfl) ⟨rfl, hH.mods⟩
end Go.Proofs.YtiiklnghnifmjaaDoor.Act
