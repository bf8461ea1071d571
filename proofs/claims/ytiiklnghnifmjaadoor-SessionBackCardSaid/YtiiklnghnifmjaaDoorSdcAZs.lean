/- A request's bytes decoded, walked. -/
import Derived.Test.YtiiklnghnifmjaaDoorDecAZs
import Derived.Test.YtiiklnghnifmjaaDoorSesAZs
import Derived.Test.YtiiklnghnifmjaaDoorSdcDZs
set_option linter.unusedVariables false
set_option linter.unusedSimpArgs false
namespace Go.Proofs.YtiiklnghnifmjaaDoor.Act
open Go.RowKit Go.Proofs.YtiiklnghnifmjaaDoor.Sx Go.Proofs.YtiiklnghnifmjaaDoor.Cod Go.Proofs.YtiiklnghnifmjaaDoor.Num
set_option maxRecDepth 100000 in
set_option maxHeartbeats 1000000 in
theorem read_calls (w0 : World) (hL : LibAt true w0) {ok : Nat → Prop} {A : Option Addr} {bs : List Int} {c : Nat} (hrb : Rd (.int .u8) w0 ok A bs c) (hby : Byte bs) : Calls Tryd.prog 73 #[.slice A bs.length c] w0 fun e w' => ∃ (o : OpD) (Ad : Option Addr) (cd : Nat) (b : Bool), e = .returned (.tuple #[.agg #[.int .i64 o.kind, .string (strOfNums o.key), .int .i64 o.step.1, .string (strOfNums o.step.2.1), .string (strOfNums o.step.2.2.1), .int .i64 o.step.2.2.2, .string (strOfNums o.timer.name), .int .i64 o.timer.ver, .int .u64 o.timer.tick, .int .u64 o.timer.every, .slice Ad o.timer.steps.length cd], .bool b]) ∧ Mods (fun _ => False) w0 w' ∧ RowOut StE 53 w0 w' (.slice Ad o.timer.steps.length cd) o.timer.steps ∧ ReadO bs o b := by
 refine calls_of_wp Tryd.func73 rfl ?_
 have hF := Fr.enter #[.slice A bs.length c] 85 (slotsOf [.slice A bs.length c] 0) (Nat.le_of_ble_eq_true rfl) (fun i v h => by have h2 := (get_slotsOf _ 0 i v h).2; simpa only [List.getElem?_toArray, Nat.sub_zero] using h2)
 have hH := Hp.nil (fun _ => False) w0
 rw [Tryd.ntmps73]
 revert hF; generalize (⟨(#[.slice A bs.length c] : Array Value) ++ Array.replicate (85 - (#[.slice A bs.length c] : Array Value).size) undef, []⟩ : Act) = a; intro hF
 have hH := hH.arg 901 hrb.all (fun _ h => ⟨h, fun h => h⟩)
 have hleb := hrb.le; unfold maxLen at hleb
 have hH := hH.libN 990 hL
 refine wp_seq_k fun khK1 hK1 => ?_
 refine wp_region_lit ?_
 refine wpList_plain rfl fun K hK => ?_
 refine w_alloc 2 hF hH rfl ty55 ?_
 clear hF hH; intro a w b2 hF hH
 refine hK _ _ ?_; clear hK K
 refine l_at hF rfl rfl rfl (x_assign rfl) ?_; clear hF; intro a hF
 refine wpList_nil ?_
 refine hK1 _ _ ?_
 refine wp_seq_k fun khK2 hK2 => ?_
 refine wp_region_lit ?_
 refine l_at hF rfl rfl rfl (x_move (hF.tmp 0 rfl)) ?_; clear hF; intro a hF
 refine wpList_plain rfl fun K hK => ?_
 refine w_call hF (x_enter Tryd.func64 (by kernel_rfl) rfl (by simp only [List.map_toArray, List.map_cons, List.map_nil, hF.tmp 13 rfl] <;> rfl)) (dec_calls _ ((hH.rd 901 rfl)) hby) rfl rfl ?_
 rintro _ w ⟨vr14, rfl, hm_, okr14, hr_, hf_, ho14_⟩; refine ⟨_, rfl, ?_⟩; clear hF; intro a hF; have hH := hH.newRow 14 hm_ hr_ hf_ ho14_; obtain ⟨Ar14, cr14, rfl⟩ := (hH.row 14 rfl).form
 refine hK _ _ ?_; clear hK K
 refine l_at hF rfl rfl rfl (x_move (hF.tmp 14 rfl)) ?_; clear hF; intro a hF
 refine l_at hF rfl rfl rfl (x_extract (hF.tmp 12 rfl) rfl) ?_; clear hF; intro a hF
 refine l_at hF rfl rfl rfl (x_extract (hF.tmp 12 rfl) rfl) ?_; clear hF; intro a hF
 refine l_at hF rfl rfl rfl (x_assign (hF.tmp 15 rfl)) ?_; clear hF; intro a hF
 refine l_at hF rfl rfl rfl (x_assign (hF.tmp 16 rfl)) ?_; clear hF; intro a hF
 obtain ⟨dl, hdl⟩ : ∃ dl, dl = (decR bs).getD [] := ⟨_, rfl⟩
 rw [← hdl] at hF hH
 have hbf : ∀ f ∈ dl, Byte f.2 := by rw [hdl]; exact dl_byte hby
 have hH := hH.freeze 14 rfl (fun kb => okr14 kb ∨ (Value.slice Ar14 dl.length cr14).ownBlock = some kb) (fun kb => Iff.rfl)
 refine wpList_nil ?_
 refine hK2 _ _ ?_
 refine wp_seq_k fun khK3 hK3 => ?_
 refine wp_seq_k fun khK4 hK4 => ?_
 refine wp_region_lit ?_
 refine l_at hF rfl rfl rfl (x_move (hF.tmp 5 rfl)) ?_; clear hF; intro a hF
 refine l_at hF rfl rfl rfl (x_neq (hF.tmp 17 rfl) rfl) ?_; clear hF; intro a hF
 refine l_at hF rfl rfl rfl (x_move (hF.tmp 18 rfl)) ?_; clear hF; intro a hF
 refine split_bool hF 19 rfl (fun hb19 => ?_) (fun hb19 => ?_)
 ·have hc19 := hb19; try simp only [Bool.or_eq_true, Bool.and_eq_true, Bool.or_eq_false_iff, Bool.and_eq_false_iff, Bool.not_eq_true', Bool.not_eq_false', decide_eq_true_eq, decide_eq_false_iff_not, Bool.not_true, Bool.not_false] at hc19
  have hz : NoO bs := noO_none (by cases hd : decR bs with | none => rfl | some l => rw [hd] at hc19; exact absurd rfl hc19)
  refine l_offg hF ((wanted_of hF rfl rfl rfl rfl).trans (by rw [hb19]; rfl)) rfl rfl ?_; clear hF; intro a hF
  refine l_offg hF ((wanted_of hF rfl rfl rfl rfl).trans (by rw [hb19]; rfl)) rfl rfl ?_; clear hF; intro a hF
  refine l_offg hF ((wanted_of hF rfl rfl rfl rfl).trans (by rw [hb19]; rfl)) rfl rfl ?_; clear hF; intro a hF
  refine l_at hF rfl rfl rfl (x_pickT (hF.tmp 19 rfl) hb19 rfl) ?_; clear hF; intro a hF
  refine l_at hF rfl rfl rfl (x_move (hF.tmp 23 rfl)) ?_; clear hF; intro a hF
  refine l_offg hF ((wanted_of hF rfl rfl rfl rfl).trans rfl) rfl rfl ?_; clear hF; intro a hF
  refine l_offg hF ((wanted_of hF rfl rfl rfl rfl).trans rfl) rfl rfl ?_; clear hF; intro a hF
  refine l_offg hF ((wanted_of hF rfl rfl rfl rfl).trans rfl) rfl rfl ?_; clear hF; intro a hF
  refine l_offg hF ((wanted_of hF rfl rfl rfl rfl).trans rfl) rfl rfl ?_; clear hF; intro a hF
  refine l_offg hF ((wanted_of hF rfl rfl rfl rfl).trans rfl) rfl rfl ?_; clear hF; intro a hF
  refine l_offg hF ((wanted_of hF rfl rfl rfl rfl).trans rfl) rfl rfl ?_; clear hF; intro a hF
  refine l_at hF rfl rfl rfl (x_pickT (hF.tmp 24 rfl) rfl rfl) ?_; clear hF; intro a hF
  refine wpList_nil ?_
  refine hK4 _ _ ?_
  refine wp_cond_true (hF.tmp 31 rfl) ?_
  refine wp_seq_k fun khK5 hK5 => ?_
  refine wp_region_lit ?_
  refine l_at hF rfl rfl rfl (x_buildS (cells := #[.int .i64 0, .string (strOfNums []), .int .i64 0, .string (strOfNums []), .string (strOfNums []), .int .i64 0, .string (strOfNums []), .int .i64 0, .int .u64 0, .int .u64 0, .slice none 0 0]) (places := #[(0, 1), (1, 1), (2, 4), (6, 5)]) Tryd.underlying55 ty55 (by kernel_rfl) Array.map_empty rfl) ?_; clear hF; intro a hF
  refine wpList_plain rfl fun K hK => ?_
  refine w_storeA 2 hH ty55 rfl (hF.tmp 2 rfl) (hF.tmp 32 rfl) rfl (by simp [Value.cells, Value.oneCell']) rfl ?_
  clear hH; intro w hH
  refine hK _ _ ?_; clear hK K
  refine l_at hF rfl rfl rfl (x_assign rfl) ?_; clear hF; intro a hF
  refine wpList_nil ?_
  refine hK5 _ _ ?_
  refine wp_ret ?_
  try simp only [Exit.then, Exit.inBlock]
  exact fin_ret hF (resct hF rfl rfl rfl (hH.at 2 rfl) ty55 rfl) ⟨zO, none, 0, false, rfl, hH.mods, RowOut.nil _ _ _ _, ReadO.no hz⟩
 ·have hc19 := hb19; try simp only [Bool.or_eq_true, Bool.and_eq_true, Bool.or_eq_false_iff, Bool.and_eq_false_iff, Bool.not_eq_true', Bool.not_eq_false', decide_eq_true_eq, decide_eq_false_iff_not, Bool.not_true, Bool.not_false] at hc19
  have hdec : decR bs = some dl := by rw [hdl]; cases hd : decR bs with | some l => rfl | none => rw [hd] at hc19; exact absurd hc19 (by decide)
  refine l_atg hF ((wanted_of hF rfl rfl rfl rfl).trans (by rw [hb19]; rfl)) rfl rfl (x_move (hF.tmp 4 rfl)) ?_; clear hF; intro a hF
  refine l_atg hF ((wanted_of hF rfl rfl rfl rfl).trans (by rw [hb19]; rfl)) rfl rfl (x_len_slice Tryd.underlying100 (hF.tmp 20 rfl)) ?_; clear hF; intro a hF
  refine l_atg hF ((wanted_of hF rfl rfl rfl rfl).trans (by rw [hb19]; rfl)) rfl rfl (x_neq (hF.tmp 21 rfl) rfl) ?_; clear hF; intro a hF
  refine l_at hF rfl rfl rfl (x_pickF (hF.tmp 19 rfl) hb19 (hF.tmp 22 rfl)) ?_; clear hF; intro a hF
  refine l_at hF rfl rfl rfl (x_move (hF.tmp 23 rfl)) ?_; clear hF; intro a hF
  refine split_bool hF 24 rfl (fun hb24 => ?_) (fun hb24 => ?_)
  ·have hc24 := hb24; try simp only [Bool.or_eq_true, Bool.and_eq_true, Bool.or_eq_false_iff, Bool.and_eq_false_iff, Bool.not_eq_true', Bool.not_eq_false', decide_eq_true_eq, decide_eq_false_iff_not, Bool.not_true, Bool.not_false] at hc24
   have hz : NoO bs := noO_len hdec hc24
   refine l_offg hF ((wanted_of hF rfl rfl rfl rfl).trans (by rw [hb24]; rfl)) rfl rfl ?_; clear hF; intro a hF
   refine l_offg hF ((wanted_of hF rfl rfl rfl rfl).trans (by rw [hb24]; rfl)) rfl rfl ?_; clear hF; intro a hF
   refine l_offg hF ((wanted_of hF rfl rfl rfl rfl).trans (by rw [hb24]; rfl)) rfl rfl ?_; clear hF; intro a hF
   refine l_offg hF ((wanted_of hF rfl rfl rfl rfl).trans (by rw [hb24]; rfl)) rfl rfl ?_; clear hF; intro a hF
   refine l_offg hF ((wanted_of hF rfl rfl rfl rfl).trans (by rw [hb24]; rfl)) rfl rfl ?_; clear hF; intro a hF
   refine l_offg hF ((wanted_of hF rfl rfl rfl rfl).trans (by rw [hb24]; rfl)) rfl rfl ?_; clear hF; intro a hF
   refine l_at hF rfl rfl rfl (x_pickT (hF.tmp 24 rfl) hb24 rfl) ?_; clear hF; intro a hF
   refine wpList_nil ?_
   refine hK4 _ _ ?_
   refine wp_cond_true (hF.tmp 31 rfl) ?_
   refine wp_seq_k fun khK6 hK6 => ?_
   refine wp_region_lit ?_
   refine l_at hF rfl rfl rfl (x_buildS (cells := #[.int .i64 0, .string (strOfNums []), .int .i64 0, .string (strOfNums []), .string (strOfNums []), .int .i64 0, .string (strOfNums []), .int .i64 0, .int .u64 0, .int .u64 0, .slice none 0 0]) (places := #[(0, 1), (1, 1), (2, 4), (6, 5)]) Tryd.underlying55 ty55 (by kernel_rfl) Array.map_empty rfl) ?_; clear hF; intro a hF
   refine wpList_plain rfl fun K hK => ?_
   refine w_storeA 2 hH ty55 rfl (hF.tmp 2 rfl) (hF.tmp 32 rfl) rfl (by simp [Value.cells, Value.oneCell']) rfl ?_
   clear hH; intro w hH
   refine hK _ _ ?_; clear hK K
   refine l_at hF rfl rfl rfl (x_assign rfl) ?_; clear hF; intro a hF
   refine wpList_nil ?_
   refine hK6 _ _ ?_
   refine wp_ret ?_
   try simp only [Exit.then, Exit.inBlock]
   exact fin_ret hF (resct hF rfl rfl rfl (hH.at 2 rfl) ty55 rfl) ⟨zO, none, 0, false, rfl, hH.mods, RowOut.nil _ _ _ _, ReadO.no hz⟩
  ·have hc24 := hb24; try simp only [Bool.or_eq_true, Bool.and_eq_true, Bool.or_eq_false_iff, Bool.and_eq_false_iff, Bool.not_eq_true', Bool.not_eq_false', decide_eq_true_eq, decide_eq_false_iff_not, Bool.not_true, Bool.not_false] at hc24
   have hl2 : (dl.length : Int) = 2 := hc24
   obtain ⟨fA1, fc1, hfr1, hf1_0, hf1_1, hfw1⟩ := Rd.fld ((hH.rd 14 rfl)) (gf_some (xs := dl) (i := 0) (by omega) (by omega))
   have hH := hH.subrd 14 rfl 1001 hfr1 (fun _ h => h)
   have hH := hH.subcels 14 rfl 1499 hfw1 (Rd.inok ((hH.rd 14 rfl)) (by omega) _)
   have hH := hH.subcel 14 rfl 1500 hf1_0 (Rd.inok ((hH.rd 14 rfl)) (by omega) _)
   have hH := hH.subcel 14 rfl 1501 hf1_1 (Rd.inok ((hH.rd 14 rfl)) (by omega) _)
   refine l_atg hF ((wanted_of hF rfl rfl rfl rfl).trans (by rw [hb24]; rfl)) rfl rfl (x_move (hF.tmp 4 rfl)) ?_; clear hF; intro a hF
   refine l_atg hF ((wanted_of hF rfl rfl rfl rfl).trans (by rw [hb24]; rfl)) rfl rfl (x_iaddr_A Tryd.underlying100 ty99 ((hH.rd 14 rfl)) (hF.tmp 25 rfl) rfl (by omega) (by omega) _) ?_; clear hF; intro a hF
   refine l_atg hF ((wanted_of hF rfl rfl rfl rfl).trans (by rw [hb24]; rfl)) rfl rfl (x_faddrA ((hH.rd 14 rfl)) (by omega) _ Tryd.underlying99 rfl ty28 (by decide) (hF.tmp 26 rfl) rfl) ?_; clear hF; intro a hF
   refine l_atg hF ((wanted_of hF rfl rfl rfl rfl).trans (by rw [hb24]; rfl)) rfl rfl (x_load1 ty28 (hF.tmp 27 rfl) (hH.holds 1501 _ rfl)) ?_; clear hF; intro a hF
   refine l_atg hF ((wanted_of hF rfl rfl rfl rfl).trans (by rw [hb24]; rfl)) rfl rfl (x_len_slice Tryd.underlying28 (hF.tmp 28 rfl)) ?_; clear hF; intro a hF
   refine l_atg hF ((wanted_of hF rfl rfl rfl rfl).trans (by rw [hb24]; rfl)) rfl rfl (x_neq (hF.tmp 29 rfl) rfl) ?_; clear hF; intro a hF
   refine l_at hF rfl rfl rfl (x_pickF (hF.tmp 24 rfl) hb24 (hF.tmp 30 rfl)) ?_; clear hF; intro a hF
   refine wpList_nil ?_
   refine hK4 _ _ ?_
   refine wp_cond_split (hF.tmp 31 rfl) (fun hc31 => ?_) (fun hc31 => ?_)
   ·have hk31_1 := hc31; try simp only [Bool.or_eq_true, Bool.and_eq_true, Bool.or_eq_false_iff, Bool.and_eq_false_iff, Bool.not_eq_true', Bool.not_eq_false', decide_eq_true_eq, decide_eq_false_iff_not, Bool.not_true, Bool.not_false] at hc31
    have hz : NoO bs := noO_one hdec hc31
    refine wp_seq_k fun khK7 hK7 => ?_
    refine wp_region_lit ?_
    refine l_at hF rfl rfl rfl (x_buildS (cells := #[.int .i64 0, .string (strOfNums []), .int .i64 0, .string (strOfNums []), .string (strOfNums []), .int .i64 0, .string (strOfNums []), .int .i64 0, .int .u64 0, .int .u64 0, .slice none 0 0]) (places := #[(0, 1), (1, 1), (2, 4), (6, 5)]) Tryd.underlying55 ty55 (by kernel_rfl) Array.map_empty rfl) ?_; clear hF; intro a hF
    refine wpList_plain rfl fun K hK => ?_
    refine w_storeA 2 hH ty55 rfl (hF.tmp 2 rfl) (hF.tmp 32 rfl) rfl (by simp [Value.cells, Value.oneCell']) rfl ?_
    clear hH; intro w hH
    refine hK _ _ ?_; clear hK K
    refine l_at hF rfl rfl rfl (x_assign rfl) ?_; clear hF; intro a hF
    refine wpList_nil ?_
    refine hK7 _ _ ?_
    refine wp_ret ?_
    try simp only [Exit.then, Exit.inBlock]
    exact fin_ret hF (resct hF rfl rfl rfl (hH.at 2 rfl) ty55 rfl) ⟨zO, none, 0, false, rfl, hH.mods, RowOut.nil _ _ _ _, ReadO.no hz⟩
   ·have hk31_2 := hc31; try simp only [Bool.or_eq_true, Bool.and_eq_true, Bool.or_eq_false_iff, Bool.and_eq_false_iff, Bool.not_eq_true', Bool.not_eq_false', decide_eq_true_eq, decide_eq_false_iff_not, Bool.not_true, Bool.not_false] at hc31
    have hl1 : ((gf dl 0).2.length : Int) = 1 := hc31
    refine wp_skip ?_
    refine hK3 _ _ ?_
    refine wp_seq_k fun khK8 hK8 => ?_
    refine wp_region_lit ?_
    refine l_at hF rfl rfl rfl (x_move (hF.tmp 4 rfl)) ?_; clear hF; intro a hF
    have hm := gf_in (xs := dl) (i := 0) (by omega) (by omega)
    have hm1 := gf_in (xs := dl) (i := 1) (by omega) (by omega)
    refine l_at hF rfl rfl rfl (x_iaddr_A Tryd.underlying100 ty99 ((hH.rd 14 rfl)) (hF.tmp 33 rfl) rfl (by omega) (by omega) _) ?_; clear hF; intro a hF
    refine l_at hF rfl rfl rfl (x_faddrA ((hH.rd 14 rfl)) (by omega) _ Tryd.underlying99 rfl ty28 (by decide) (hF.tmp 34 rfl) rfl) ?_; clear hF; intro a hF
    refine l_at hF rfl rfl rfl (x_load1 ty28 (hF.tmp 35 rfl) (hH.holds 1501 _ rfl)) ?_; clear hF; intro a hF
    refine l_at hF rfl rfl rfl (x_iaddr_A Tryd.underlying28 ty5 ((hH.rd 1001 rfl)) (hF.tmp 36 rfl) rfl (by omega) (by omega) _) ?_; clear hF; intro a hF
    refine l_at hF rfl rfl rfl (x_load1 ty5 (hF.tmp 37 rfl) (((hH.rd 1001 rfl)).cellA (gi_some (i := 0) (by omega) (by omega)))) ?_; clear hF; intro a hF
    refine l_at hF rfl rfl rfl (x_conv Tryd.underlying50 ⟨_, Tryd.underlying5⟩ (hF.tmp 38 rfl) (w64 (by have := ((hbf _ hm : Byte _).gi 0); omega) (by have := ((hbf _ hm : Byte _).gi 0); omega))) ?_; clear hF; intro a hF
    refine l_at hF rfl rfl rfl (x_buildS (cells := #[.int .i64 (gi (gf dl 0).2 0), .string (strOfNums []), .int .i64 0, .string (strOfNums []), .string (strOfNums []), .int .i64 0, .string (strOfNums []), .int .i64 0, .int .u64 0, .int .u64 0, .slice none 0 0]) (places := #[(0, 1), (1, 1), (2, 4), (6, 5)]) Tryd.underlying55 ty55 (by kernel_rfl) (by simp only [List.map_toArray, List.map_cons, List.map_nil, hF.tmp 39 rfl] <;> rfl) rfl) ?_; clear hF; intro a hF
    refine wpList_plain rfl fun K hK => ?_
    refine w_alloc 6 hF hH rfl ty55 ?_
    clear hF hH; intro a w b6 hF hH
    refine hK _ _ ?_; clear hK K
    refine wpList_plain rfl fun K hK => ?_
    refine w_storeA 6 hH ty55 rfl (hF.tmp 6 rfl) (hF.tmp 40 rfl) rfl (by simp [Value.cells, Value.oneCell']) rfl ?_
    clear hH; intro w hH
    refine hK _ _ ?_; clear hK K
    refine wpList_nil ?_
    refine hK8 _ _ ?_
    refine wp_seq_k fun khK9 hK9 => ?_
    refine wp_region_lit ?_
    refine l_at hF rfl rfl rfl (x_move (hF.tmp 4 rfl)) ?_; clear hF; intro a hF
    obtain ⟨fA2, fc2, hfr2, hf2_0, hf2_1, hfw2⟩ := Rd.fld ((hH.rd 14 rfl)) (gf_some (xs := dl) (i := 1) (by omega) (by omega))
    have hH := hH.subrd 14 rfl 2001 hfr2 (fun _ h => h)
    have hH := hH.subcels 14 rfl 2499 hfw2 (Rd.inok ((hH.rd 14 rfl)) (by omega) _)
    have hH := hH.subcel 14 rfl 2500 hf2_0 (Rd.inok ((hH.rd 14 rfl)) (by omega) _)
    have hH := hH.subcel 14 rfl 2501 hf2_1 (Rd.inok ((hH.rd 14 rfl)) (by omega) _)
    refine l_at hF rfl rfl rfl (x_iaddr_A Tryd.underlying100 ty99 ((hH.rd 14 rfl)) (hF.tmp 41 rfl) rfl (by omega) (by omega) _) ?_; clear hF; intro a hF
    refine l_at hF rfl rfl rfl (x_faddrA ((hH.rd 14 rfl)) (by omega) _ Tryd.underlying99 rfl ty28 (by decide) (hF.tmp 42 rfl) rfl) ?_; clear hF; intro a hF
    refine l_at hF rfl rfl rfl (x_load1 ty28 (hF.tmp 43 rfl) (hH.holds 2501 _ rfl)) ?_; clear hF; intro a hF
    refine l_at hF rfl rfl rfl (x_assign (hF.tmp 44 rfl)) ?_; clear hF; intro a hF
    refine wpList_nil ?_
    refine hK9 _ _ ?_
    refine wp_seq_k fun khK10 hK10 => ?_
    refine wp_seq_k fun khK11 hK11 => ?_
    refine wp_region_lit ?_
    refine l_at hF rfl rfl rfl (x_faddr Tryd.underlying55 rfl ty50 (by decide) (hF.tmp 6 rfl) rfl) ?_; clear hF; intro a hF
    refine l_at hF rfl rfl rfl (x_load1 ty50 (hF.tmp 45 rfl) (blk_cell (hH.at 6 rfl) 0 rfl)) ?_; clear hF; intro a hF
    refine wpList_nil ?_
    refine hK11 _ _ ?_
    refine wp_block ?_
    refine wp_seq_k fun khK12 hK12 => ?_
    refine wp_region_lit ?_
    refine l_at hF rfl rfl rfl (x_eql (hF.tmp 46 rfl) rfl) ?_; clear hF; intro a hF
    refine l_at hF rfl rfl rfl (x_assign (hF.tmp 51 rfl)) ?_; clear hF; intro a hF
    refine wpList_nil ?_
    refine hK12 _ _ ?_
    refine wp_cond_split (hF.tmp 50 rfl) (fun hc50 => ?_) (fun hc50 => ?_)
    ·have hk50_3 := hc50; try simp only [Bool.or_eq_true, Bool.and_eq_true, Bool.or_eq_false_iff, Bool.and_eq_false_iff, Bool.not_eq_true', Bool.not_eq_false', decide_eq_true_eq, decide_eq_false_iff_not, Bool.not_true, Bool.not_false] at hc50
     refine wp_seq_k fun khK13 hK13 => ?_
     refine wp_region_lit ?_
     refine l_at hF rfl rfl rfl (x_move (hF.tmp 7 rfl)) ?_; clear hF; intro a hF
     refine wpList_plain rfl fun K hK => ?_
     refine w_call hF (x_enter Tryd.func96 (by kernel_rfl) rfl (by simp only [List.map_toArray, List.map_cons, List.map_nil, hF.tmp 53 rfl] <;> rfl)) (adec_calls _ (hH.holds 990 _ rfl) ((hH.rd 2001 rfl)) (hbf _ hm1)) rfl rfl ?_
     rintro _ w ⟨vr54, rfl, hm_, hr_⟩; refine ⟨_, rfl, ?_⟩; clear hF; intro a hF; have hH := Hp.rowOut hH 54 hm_ hr_; obtain ⟨Ar54, cr54, rfl⟩ := (hH.row 54 rfl).form
     refine hK _ _ ?_; clear hK K
     refine l_at hF rfl rfl rfl (x_move (hF.tmp 54 rfl)) ?_; clear hF; intro a hF
     refine l_at hF rfl rfl rfl (x_extract (hF.tmp 52 rfl) rfl) ?_; clear hF; intro a hF
     refine l_at hF rfl rfl rfl (x_extract (hF.tmp 52 rfl) rfl) ?_; clear hF; intro a hF
     refine l_at hF rfl rfl rfl (x_assign (hF.tmp 55 rfl)) ?_; clear hF; intro a hF
     refine l_at hF rfl rfl rfl (x_assign (hF.tmp 56 rfl)) ?_; clear hF; intro a hF
     refine wpList_nil ?_
     refine hK13 _ _ ?_
     refine wp_seq_k fun khK14 hK14 => ?_
     refine wp_seq_k fun khK15 hK15 => ?_
     refine wp_region_lit ?_
     refine l_at hF rfl rfl rfl (x_move (hF.tmp 9 rfl)) ?_; clear hF; intro a hF
     refine l_at hF rfl rfl rfl (x_neq (hF.tmp 57 rfl) rfl) ?_; clear hF; intro a hF
     refine l_at hF rfl rfl rfl (x_move (hF.tmp 58 rfl)) ?_; clear hF; intro a hF
     refine split_bool hF 59 rfl (fun hb59 => ?_) (fun hb59 => ?_)
     ·have hc59 := hb59; try simp only [Bool.or_eq_true, Bool.and_eq_true, Bool.or_eq_false_iff, Bool.and_eq_false_iff, Bool.not_eq_true', Bool.not_eq_false', decide_eq_true_eq, decide_eq_false_iff_not, Bool.not_true, Bool.not_false] at hc59
      have hz : NoO bs := noO_step hdec hc50 (fun h => hc59 h.1)
      refine l_offg hF ((wanted_of hF rfl rfl rfl rfl).trans (by rw [hb59]; rfl)) rfl rfl ?_; clear hF; intro a hF
      refine l_offg hF ((wanted_of hF rfl rfl rfl rfl).trans (by rw [hb59]; rfl)) rfl rfl ?_; clear hF; intro a hF
      refine l_offg hF ((wanted_of hF rfl rfl rfl rfl).trans (by rw [hb59]; rfl)) rfl rfl ?_; clear hF; intro a hF
      refine l_at hF rfl rfl rfl (x_pickT (hF.tmp 59 rfl) hb59 rfl) ?_; clear hF; intro a hF
      refine wpList_nil ?_
      refine hK15 _ _ ?_
      refine wp_cond_true (hF.tmp 63 rfl) ?_
      refine wp_seq_k fun khK16 hK16 => ?_
      refine wp_region_lit ?_
      refine l_at hF rfl rfl rfl (x_buildS (cells := #[.int .i64 0, .string (strOfNums []), .int .i64 0, .string (strOfNums []), .string (strOfNums []), .int .i64 0, .string (strOfNums []), .int .i64 0, .int .u64 0, .int .u64 0, .slice none 0 0]) (places := #[(0, 1), (1, 1), (2, 4), (6, 5)]) Tryd.underlying55 ty55 (by kernel_rfl) Array.map_empty rfl) ?_; clear hF; intro a hF
      refine wpList_plain rfl fun K hK => ?_
      refine w_storeA 2 hH ty55 rfl (hF.tmp 2 rfl) (hF.tmp 64 rfl) rfl (by simp [Value.cells, Value.oneCell']) rfl ?_
      clear hH; intro w hH
      refine hK _ _ ?_; clear hK K
      refine l_at hF rfl rfl rfl (x_assign rfl) ?_; clear hF; intro a hF
      refine wpList_nil ?_
      refine hK16 _ _ ?_
      refine wp_ret ?_
      try simp only [Exit.then, Exit.inBlock]
      exact fin_ret hF (resct hF rfl rfl rfl (hH.at 2 rfl) ty55 rfl) ⟨zO, none, 0, false, rfl, hH.mods, RowOut.nil _ _ _ _, ReadO.no hz⟩
     ·have hc59 := hb59; try simp only [Bool.or_eq_true, Bool.and_eq_true, Bool.or_eq_false_iff, Bool.and_eq_false_iff, Bool.not_eq_true', Bool.not_eq_false', decide_eq_true_eq, decide_eq_false_iff_not, Bool.not_true, Bool.not_false] at hc59
      refine l_atg hF ((wanted_of hF rfl rfl rfl rfl).trans (by rw [hb59]; rfl)) rfl rfl (x_move (hF.tmp 8 rfl)) ?_; clear hF; intro a hF
      refine l_atg hF ((wanted_of hF rfl rfl rfl rfl).trans (by rw [hb59]; rfl)) rfl rfl (x_len_slice Tryd.underlying37 (hF.tmp 60 rfl)) ?_; clear hF; intro a hF
      refine l_atg hF ((wanted_of hF rfl rfl rfl rfl).trans (by rw [hb59]; rfl)) rfl rfl (x_neq (hF.tmp 61 rfl) rfl) ?_; clear hF; intro a hF
      refine l_at hF rfl rfl rfl (x_pickF (hF.tmp 59 rfl) hb59 (hF.tmp 62 rfl)) ?_; clear hF; intro a hF
      refine wpList_nil ?_
      refine hK15 _ _ ?_
      refine wp_cond_split (hF.tmp 63 rfl) (fun hc63 => ?_) (fun hc63 => ?_)
      ·have hk63_4 := hc63; try simp only [Bool.or_eq_true, Bool.and_eq_true, Bool.or_eq_false_iff, Bool.and_eq_false_iff, Bool.not_eq_true', Bool.not_eq_false', decide_eq_true_eq, decide_eq_false_iff_not, Bool.not_true, Bool.not_false] at hc63
       have hz : NoO bs := noO_step hdec hc50 (fun h => hc63 h.2)
       refine wp_seq_k fun khK17 hK17 => ?_
       refine wp_region_lit ?_
       refine l_at hF rfl rfl rfl (x_buildS (cells := #[.int .i64 0, .string (strOfNums []), .int .i64 0, .string (strOfNums []), .string (strOfNums []), .int .i64 0, .string (strOfNums []), .int .i64 0, .int .u64 0, .int .u64 0, .slice none 0 0]) (places := #[(0, 1), (1, 1), (2, 4), (6, 5)]) Tryd.underlying55 ty55 (by kernel_rfl) Array.map_empty rfl) ?_; clear hF; intro a hF
       refine wpList_plain rfl fun K hK => ?_
       refine w_storeA 2 hH ty55 rfl (hF.tmp 2 rfl) (hF.tmp 64 rfl) rfl (by simp [Value.cells, Value.oneCell']) rfl ?_
       clear hH; intro w hH
       refine hK _ _ ?_; clear hK K
       refine l_at hF rfl rfl rfl (x_assign rfl) ?_; clear hF; intro a hF
       refine wpList_nil ?_
       refine hK17 _ _ ?_
       refine wp_ret ?_
       try simp only [Exit.then, Exit.inBlock]
       exact fin_ret hF (resct hF rfl rfl rfl (hH.at 2 rfl) ty55 rfl) ⟨zO, none, 0, false, rfl, hH.mods, RowOut.nil _ _ _ _, ReadO.no hz⟩
      ·have hk63_5 := hc63; try simp only [Bool.or_eq_true, Bool.and_eq_true, Bool.or_eq_false_iff, Bool.and_eq_false_iff, Bool.not_eq_true', Bool.not_eq_false', decide_eq_true_eq, decide_eq_false_iff_not, Bool.not_true, Bool.not_false] at hc63
       have hro := readO_step hdec hbf hm hm1 hc50 hc63
       refine wp_skip ?_
       refine hK14 _ _ ?_
       refine wp_region_lit ?_
       refine l_at hF rfl rfl rfl (x_move (hF.tmp 8 rfl)) ?_; clear hF; intro a hF
       obtain ⟨hf3_0, hf3_1, hf3_2, hf3_3, hfw3⟩ := rd_st (Row.rd (ok' := fun k_ => (fun _ => False) k_ ∨ (.slice Ar54 ((adecR (gf dl 1).2).getD []).length cr54 : Value).ownBlock = some k_) (hH.row 54 rfl) (fun _ hk_ _ => .inl hk_) (fun _ hk_ => .inr hk_)) (gst_some (xs := ((adecR (gf dl 1).2).getD [])) (i := 0) (by omega) (by omega))
       refine l_at hF rfl rfl rfl (x_iaddr_A Tryd.underlying37 ty53 (Row.rd (ok' := fun k_ => (fun _ => False) k_ ∨ (.slice Ar54 ((adecR (gf dl 1).2).getD []).length cr54 : Value).ownBlock = some k_) (hH.row 54 rfl) (fun _ hk_ _ => .inl hk_) (fun _ hk_ => .inr hk_)) (hF.tmp 65 rfl) rfl (by omega) (by omega) _) ?_; clear hF; intro a hF
       refine l_at hF rfl rfl rfl (x_loadn ty53 (hF.tmp 66 rfl) rfl hfw3) ?_; clear hF; intro a hF
       refine l_at hF rfl rfl rfl (x_faddr Tryd.underlying55 rfl ty53 (by decide) (hF.tmp 6 rfl) rfl) ?_; clear hF; intro a hF
       refine wpList_plain rfl fun K hK => ?_
       refine w_store 6 hH ty53 rfl (hF.tmp 68 rfl) (hF.tmp 67 rfl) rfl (by simp [Value.cells, Value.oneCell']) (by first | decide | exact Nat.le_of_ble_eq_true rfl) ?_
       clear hH; intro w hH
       refine hK _ _ ?_; clear hK K
       refine wpList_nil ?_
       refine hK10 _ _ ?_
       refine wp_seq_k fun khK18 hK18 => ?_
       refine wp_region_lit ?_
       refine l_at hF rfl rfl rfl (x_loadn ty55 (hF.tmp 6 rfl) rfl (blk_whole (hH.at 6 rfl))) ?_; clear hF; intro a hF
       refine wpList_plain rfl fun K hK => ?_
       refine w_storeA 2 hH ty55 rfl (hF.tmp 2 rfl) (hF.tmp 84 rfl) rfl (show ∀ u ∈ (Value.agg #[.int .i64 (gi (gf dl 0).2 0), .string (strOfNums []), .int .i64 (gst ((adecR (gf dl 1).2).getD []) 0).1, .string (strOfNums (gst ((adecR (gf dl 1).2).getD []) 0).2.1), .string (strOfNums (gst ((adecR (gf dl 1).2).getD []) 0).2.2.1), .int .i64 (gst ((adecR (gf dl 1).2).getD []) 0).2.2.2, .string (strOfNums []), .int .i64 0, .int .u64 0, .int .u64 0, .slice none 0 0]).cells.toList, u.oneCell' = true from (by simp [Value.cells, Value.oneCell'])) rfl ?_
       clear hH; intro w hH
       refine hK _ _ ?_; clear hK K
       refine l_at hF rfl rfl rfl (x_assign rfl) ?_; clear hF; intro a hF
       refine wpList_nil ?_
       refine hK18 _ _ ?_
       refine wp_ret ?_
       try simp only [Exit.then, Exit.inBlock]
       exact fin_ret hF (resct hF rfl rfl rfl (hH.at 2 rfl) ty55 rfl) ⟨_, none, 0, true, rfl, hH.mods, RowOut.nil _ _ _ _, hro⟩
    ·have hk50_6 := hc50; try simp only [Bool.or_eq_true, Bool.and_eq_true, Bool.or_eq_false_iff, Bool.and_eq_false_iff, Bool.not_eq_true', Bool.not_eq_false', decide_eq_true_eq, decide_eq_false_iff_not, Bool.not_true, Bool.not_false] at hc50
     refine wp_seq_k fun khK19 hK19 => ?_
     refine wp_region_lit ?_
     refine l_at hF rfl rfl rfl (x_eql (hF.tmp 46 rfl) rfl) ?_; clear hF; intro a hF
     refine l_at hF rfl rfl rfl (x_assign (hF.tmp 70 rfl)) ?_; clear hF; intro a hF
     refine wpList_nil ?_
     refine hK19 _ _ ?_
     refine wp_cond_split (hF.tmp 69 rfl) (fun hc69 => ?_) (fun hc69 => ?_)
     ·have hk69_7 := hc69; try simp only [Bool.or_eq_true, Bool.and_eq_true, Bool.or_eq_false_iff, Bool.and_eq_false_iff, Bool.not_eq_true', Bool.not_eq_false', decide_eq_true_eq, decide_eq_false_iff_not, Bool.not_true, Bool.not_false] at hc69
      refine wp_seq_k fun khK20 hK20 => ?_
      refine wp_region_lit ?_
      refine l_at hF rfl rfl rfl (x_move (hF.tmp 7 rfl)) ?_; clear hF; intro a hF
      refine wpList_plain rfl fun K hK => ?_
      refine w_call hF (x_enter Tryd.func67 (by kernel_rfl) rfl (by simp only [List.map_toArray, List.map_cons, List.map_nil, hF.tmp 72 rfl] <;> rfl)) (decC_calls _ (hH.holds 990 _ rfl) ((hH.rd 2001 rfl)) (hbf _ hm1)) rfl rfl ?_
      rintro _ w ⟨x, Ad, cd, g, rfl, hm_, hr_, hD_⟩; refine ⟨_, rfl, ?_⟩; clear hF; intro a hF; have hH := Hp.rowOut hH 70 hm_ hr_
      refine hK _ _ ?_; clear hK K
      refine l_at hF rfl rfl rfl (x_move (hF.tmp 73 rfl)) ?_; clear hF; intro a hF
      refine l_at hF rfl rfl rfl (x_extract (hF.tmp 71 rfl) rfl) ?_; clear hF; intro a hF
      refine l_at hF rfl rfl rfl (x_extract (hF.tmp 71 rfl) rfl) ?_; clear hF; intro a hF
      refine wpList_plain rfl fun K hK => ?_
      refine w_alloc 10 hF hH rfl ty41 ?_
      clear hF hH; intro a w b10 hF hH
      refine hK _ _ ?_; clear hK K
      refine wpList_plain rfl fun K hK => ?_
      refine w_storeA 10 hH ty41 rfl (hF.tmp 10 rfl) (hF.tmp 74 rfl) rfl (by simp [Value.cells, Value.oneCell']) rfl ?_
      clear hH; intro w hH
      refine hK _ _ ?_; clear hK K
      refine l_at hF rfl rfl rfl (x_assign (hF.tmp 75 rfl)) ?_; clear hF; intro a hF
      refine wpList_nil ?_
      refine hK20 _ _ ?_
      refine wp_seq_k fun khK21 hK21 => ?_
      refine wp_seq_k fun khK22 hK22 => ?_
      refine wp_region_lit ?_
      refine l_at hF rfl rfl rfl (x_move (hF.tmp 11 rfl)) ?_; clear hF; intro a hF
      refine l_at hF rfl rfl rfl (x_neq (hF.tmp 76 rfl) rfl) ?_; clear hF; intro a hF
      refine wpList_nil ?_
      refine hK22 _ _ ?_
      refine wp_cond_split (hF.tmp 77 rfl) (fun hc77 => ?_) (fun hc77 => ?_)
      ·have hk77_8 := hc77; try simp only [Bool.or_eq_true, Bool.and_eq_true, Bool.or_eq_false_iff, Bool.and_eq_false_iff, Bool.not_eq_true', Bool.not_eq_false', decide_eq_true_eq, decide_eq_false_iff_not, Bool.not_true, Bool.not_false] at hc77
       have hz : NoO bs := noO_arm hdec hc69 hD_ hc77
       refine wp_seq_k fun khK23 hK23 => ?_
       refine wp_region_lit ?_
       refine l_at hF rfl rfl rfl (x_buildS (cells := #[.int .i64 0, .string (strOfNums []), .int .i64 0, .string (strOfNums []), .string (strOfNums []), .int .i64 0, .string (strOfNums []), .int .i64 0, .int .u64 0, .int .u64 0, .slice none 0 0]) (places := #[(0, 1), (1, 1), (2, 4), (6, 5)]) Tryd.underlying55 ty55 (by kernel_rfl) Array.map_empty rfl) ?_; clear hF; intro a hF
       refine wpList_plain rfl fun K hK => ?_
       refine w_storeA 2 hH ty55 rfl (hF.tmp 2 rfl) (hF.tmp 78 rfl) rfl (by simp [Value.cells, Value.oneCell']) rfl ?_
       clear hH; intro w hH
       refine hK _ _ ?_; clear hK K
       refine l_at hF rfl rfl rfl (x_assign rfl) ?_; clear hF; intro a hF
       refine wpList_nil ?_
       refine hK23 _ _ ?_
       refine wp_ret ?_
       try simp only [Exit.then, Exit.inBlock]
       exact fin_ret hF (resct hF rfl rfl rfl (hH.at 2 rfl) ty55 rfl) ⟨zO, none, 0, false, rfl, hH.mods, RowOut.nil _ _ _ _, ReadO.no hz⟩
      ·have hk77_9 := hc77; try simp only [Bool.or_eq_true, Bool.and_eq_true, Bool.or_eq_false_iff, Bool.and_eq_false_iff, Bool.not_eq_true', Bool.not_eq_false', decide_eq_true_eq, decide_eq_false_iff_not, Bool.not_true, Bool.not_false] at hc77
       have hro := readO_arm hdec hbf hm hc69 hD_
       refine wp_skip ?_
       refine hK21 _ _ ?_
       refine wp_seq_k fun khK24 hK24 => ?_
       refine wp_region_lit ?_
       refine l_at hF rfl rfl rfl (x_faddr Tryd.underlying41 rfl ty39 (by decide) (hF.tmp 10 rfl) rfl) ?_; clear hF; intro a hF
       refine l_at hF rfl rfl rfl (x_loadn (cs := #[.string (strOfNums x.timer.name), .int .i64 x.timer.ver, .int .u64 x.timer.tick, .int .u64 x.timer.every, .slice Ad x.timer.steps.length cd]) ty39 (hF.tmp 79 rfl) rfl (blk_sub (hH.at 10 rfl) 3 5 rfl)) ?_; clear hF; intro a hF
       refine l_at hF rfl rfl rfl (x_faddr Tryd.underlying55 rfl ty39 (by decide) (hF.tmp 6 rfl) rfl) ?_; clear hF; intro a hF
       refine wpList_plain rfl fun K hK => ?_
       refine w_store 6 hH ty39 rfl (hF.tmp 81 rfl) (hF.tmp 80 rfl) rfl (by simp [Value.cells, Value.oneCell']) (by first | decide | exact Nat.le_of_ble_eq_true rfl) ?_
       clear hH; intro w hH
       refine hK _ _ ?_; clear hK K
       refine wpList_nil ?_
       refine hK24 _ _ ?_
       refine wp_region_lit ?_
       refine l_at hF rfl rfl rfl (x_faddr Tryd.underlying55 rfl ty39 (by decide) (hF.tmp 6 rfl) rfl) ?_; clear hF; intro a hF
       refine l_at hF rfl rfl rfl (x_faddr Tryd.underlying39 rfl ty3 (by decide) (hF.tmp 82 rfl) rfl) ?_; clear hF; intro a hF
       refine wpList_plain rfl fun K hK => ?_
       refine w_store 6 hH ty3 rfl (hF.tmp 83 rfl) rfl rfl (one1 rfl rfl) (by first | decide | exact Nat.le_of_ble_eq_true rfl) ?_
       clear hH; intro w hH
       refine hK _ _ ?_; clear hK K
       refine wpList_nil ?_
       refine hK10 _ _ ?_
       refine wp_seq_k fun khK25 hK25 => ?_
       refine wp_region_lit ?_
       refine l_at hF rfl rfl rfl (x_loadn ty55 (hF.tmp 6 rfl) rfl (blk_whole (hH.at 6 rfl))) ?_; clear hF; intro a hF
       refine wpList_plain rfl fun K hK => ?_
       refine w_storeA 2 hH ty55 rfl (hF.tmp 2 rfl) (hF.tmp 84 rfl) rfl (show ∀ u ∈ (Value.agg #[.int .i64 (gi (gf dl 0).2 0), .string (strOfNums []), .int .i64 0, .string (strOfNums []), .string (strOfNums []), .int .i64 0, .string (strOfNums x.timer.name), .int .i64 0, .int .u64 x.timer.tick, .int .u64 x.timer.every, .slice Ad x.timer.steps.length cd]).cells.toList, u.oneCell' = true from (by simp [Value.cells, Value.oneCell'])) rfl ?_
       clear hH; intro w hH
       refine hK _ _ ?_; clear hK K
       refine l_at hF rfl rfl rfl (x_assign rfl) ?_; clear hF; intro a hF
       refine wpList_nil ?_
       refine hK25 _ _ ?_
       refine wp_ret ?_
       try simp only [Exit.then, Exit.inBlock]
       exact fin_ret hF (resct hF rfl rfl rfl (hH.at 2 rfl) ty55 rfl) ⟨_, Ad, cd, true, rfl, hH.mods, Hp.out hH 70 rfl, hro⟩
     ·have hk69_10 := hc69; try simp only [Bool.or_eq_true, Bool.and_eq_true, Bool.or_eq_false_iff, Bool.and_eq_false_iff, Bool.not_eq_true', Bool.not_eq_false', decide_eq_true_eq, decide_eq_false_iff_not, Bool.not_true, Bool.not_false] at hc69
      have hro := readO_key hdec hbf hm hm1 hc50 hc69
      refine wp_region_lit ?_
      refine l_at hF rfl rfl rfl (x_move (hF.tmp 7 rfl)) ?_; clear hF; intro a hF
      refine l_at hF rfl rfl rfl (x_b2s Tryd.underlying28 Tryd.underlying5 Tryd.underlying9 ((hH.rd 2001 rfl)) (hF.tmp 47 rfl)) ?_; clear hF; intro a hF
      refine l_at hF rfl rfl rfl (x_faddr Tryd.underlying55 rfl ty9 (by decide) (hF.tmp 6 rfl) rfl) ?_; clear hF; intro a hF
      refine wpList_plain rfl fun K hK => ?_
      refine w_store 6 hH ty9 rfl (hF.tmp 49 rfl) (hF.tmp 48 rfl) rfl (one1 rfl rfl) (by first | decide | exact Nat.le_of_ble_eq_true rfl) ?_
      clear hH; intro w hH
      refine hK _ _ ?_; clear hK K
      refine wpList_nil ?_
      refine hK10 _ _ ?_
      refine wp_seq_k fun khK26 hK26 => ?_
      refine wp_region_lit ?_
      refine l_at hF rfl rfl rfl (x_loadn ty55 (hF.tmp 6 rfl) rfl (blk_whole (hH.at 6 rfl))) ?_; clear hF; intro a hF
      refine wpList_plain rfl fun K hK => ?_
      refine w_storeA 2 hH ty55 rfl (hF.tmp 2 rfl) (hF.tmp 84 rfl) rfl (show ∀ u ∈ (Value.agg #[.int .i64 (gi (gf dl 0).2 0), .string (strOfNums ((gf dl 1).2)), .int .i64 0, .string (strOfNums []), .string (strOfNums []), .int .i64 0, .string (strOfNums []), .int .i64 0, .int .u64 0, .int .u64 0, .slice none 0 0]).cells.toList, u.oneCell' = true from (by simp [Value.cells, Value.oneCell'])) rfl ?_
      clear hH; intro w hH
      refine hK _ _ ?_; clear hK K
      refine l_at hF rfl rfl rfl (x_assign rfl) ?_; clear hF; intro a hF
      refine wpList_nil ?_
      refine hK26 _ _ ?_
      refine wp_ret ?_
      try simp only [Exit.then, Exit.inBlock]
      exact fin_ret hF (resct hF rfl rfl rfl (hH.at 2 rfl) ty55 rfl) ⟨_, none, 0, true, rfl, hH.mods, RowOut.nil _ _ _ _, hro⟩
theorem decB_calls2 (w0 : World) {ok : Nat → Prop} {A : Option Addr} {bs : List Int} {c : Nat} (hr : Rd (.int .u8) w0 ok A (bodyM bs) c) (hby : Byte (bodyM bs)) : Calls Tryd.prog 64 #[.slice A (bodyM bs).length c] w0 fun e w' => ∃ v, e = .returned (.tuple #[v, .int .i64 (if (decR (bodyM bs)).isSome then 0 else 12)]) ∧ Mods (fun _ => False) w0 w' ∧ RowNew FE 99 w0 w' v ((decR (bodyM bs)).getD []) := dec_calls w0 hr hby
set_option maxRecDepth 100000 in
set_option maxHeartbeats 1000000 in
theorem decQ_calls (w0 : World) (hL : LibAt true w0) {ok : Nat → Prop} {A : Option Addr} {bs : List Int} {c : Nat} (hrb : Rd (.int .u8) w0 ok A bs c) (hby : Byte bs) : Calls Tryd.prog 37 #[.slice A bs.length c] w0 fun e w' => ∃ (r : SReqD) (Ao : Option Addr) (co : Nat) (oko : Nat → Prop) (g : Int), e = .returned (.tuple #[.agg #[.string (strOfNums r.client), .int .i64 r.num, .slice Ao r.ops.length co], .int .i64 g]) ∧ Mods (fun _ => False) w0 w' ∧ Rd OpdE w' oko Ao r.ops co ∧ (∀ k, oko k → w0.heap.size ≤ k ∧ k < w'.heap.size) ∧ DecQ bs r g := by
 refine calls_of_wp Tryd.func37 rfl ?_
 have hF := Fr.enter #[.slice A bs.length c] 100 (slotsOf [.slice A bs.length c] 0) (Nat.le_of_ble_eq_true rfl) (fun i v h => by have h2 := (get_slotsOf _ 0 i v h).2; simpa only [List.getElem?_toArray, Nat.sub_zero] using h2)
 have hH := Hp.nil (fun _ => False) w0
 rw [Tryd.ntmps37]
 revert hF; generalize (⟨(#[.slice A bs.length c] : Array Value) ++ Array.replicate (100 - (#[.slice A bs.length c] : Array Value).size) undef, []⟩ : Act) = a; intro hF
 have hH := hH.arg 901 hrb.all (fun _ h => ⟨h, fun h => h⟩)
 have hleb := hrb.le; unfold maxLen at hleb
 have hH := hH.libN 990 hL
 refine wp_seq_k fun khK1 hK1 => ?_
 refine wp_region_lit ?_
 refine wpList_plain rfl fun K hK => ?_
 refine w_alloc 2 hF hH rfl ty45 ?_
 clear hF hH; intro a w b2 hF hH
 refine hK _ _ ?_; clear hK K
 refine l_at hF rfl rfl rfl (x_assign rfl) ?_; clear hF; intro a hF
 refine wpList_nil ?_
 refine hK1 _ _ ?_
 refine wp_seq_k fun khK2 hK2 => ?_
 refine wp_region_lit ?_
 refine l_at hF rfl rfl rfl (x_move (hF.tmp 0 rfl)) ?_; clear hF; intro a hF
 refine l_at hF rfl rfl rfl (x_move (hF.tmp 0 rfl)) ?_; clear hF; intro a hF
 refine l_at hF rfl rfl rfl (x_len_slice Tryd.underlying28 (hF.tmp 21 rfl)) ?_; clear hF; intro a hF
 refine l_at hF rfl rfl rfl (x_sub (hF.tmp 22 rfl) rfl (w64 (by omega) (by omega))) ?_; clear hF; intro a hF
 refine l_at hF rfl rfl rfl (x_max2 (hF.tmp 23 rfl) rfl) ?_; clear hF; intro a hF
 refine l_at hF rfl rfl rfl (x_slice_h Tryd.underlying28 ty5 (hF.tmp 20 rfl) (hF.tmp 24 rfl) (by unfold mx; split <;> omega) (by unfold mx; split <;> omega) ((hH.rd 901 rfl)).1) ?_; clear hF; intro a hF
 refine wpList_plain rfl fun K hK => ?_
 refine w_call hF (x_enter Tryd.func64 (by kernel_rfl) rfl (by simp only [List.map_toArray, List.map_cons, List.map_nil, hF.tmp 25 rfl] <;> rfl)) (decB_calls2 (bs := bs) _ ((Rd.take ((hH.rd 901 rfl)) ((mx ((bs.length : Int) - 4) 0).toNat))) ((hby : Byte _).take _)) rfl rfl ?_
 rintro _ w ⟨vr19, rfl, hm_, okr19, hr_, hf_, ho19_⟩; refine ⟨_, rfl, ?_⟩; clear hF; intro a hF; have hH := hH.newRow 19 hm_ hr_ hf_ ho19_; obtain ⟨Ar19, cr19, rfl⟩ := (hH.row 19 rfl).form
 refine hK _ _ ?_; clear hK K
 refine l_at hF rfl rfl rfl (x_move (hF.tmp 26 rfl)) ?_; clear hF; intro a hF
 refine l_at hF rfl rfl rfl (x_extract (hF.tmp 19 rfl) rfl) ?_; clear hF; intro a hF
 refine l_at hF rfl rfl rfl (x_extract (hF.tmp 19 rfl) rfl) ?_; clear hF; intro a hF
 refine l_at hF rfl rfl rfl (x_assign (hF.tmp 27 rfl)) ?_; clear hF; intro a hF
 refine l_at hF rfl rfl rfl (x_assign (hF.tmp 28 rfl)) ?_; clear hF; intro a hF
 obtain ⟨dl, hdl⟩ : ∃ dl, dl = (decR (bodyM bs)).getD [] := ⟨_, rfl⟩
 rw [← hdl] at hF hH
 have hsh : short dl = true := by rw [hdl]; exact dl_short ((hby : Byte _).take _)
 have hbf : ∀ f ∈ dl, Byte f.2 := by rw [hdl]; exact dl_byte ((hby : Byte _).take _)
 have hH := hH.freeze 19 rfl (fun kb => okr19 kb ∨ (Value.slice Ar19 dl.length cr19).ownBlock = some kb) (fun kb => Iff.rfl)
 refine wpList_nil ?_
 refine hK2 _ _ ?_
 refine wp_seq_k fun khK3 hK3 => ?_
 refine wp_region_lit ?_
 refine l_at hF rfl rfl rfl (x_move (hF.tmp 4 rfl)) ?_; clear hF; intro a hF
 refine wpList_plain rfl fun K hK => ?_
 refine w_call hF (x_enter Tryd.func65 (by kernel_rfl) rfl (by simp only [List.map_toArray, List.map_cons, List.map_nil, hF.tmp 30 rfl] <;> rfl)) (dfind_calls _ 1 ((hH.rd 19 rfl)) hsh) rfl rfl ?_
 rintro _ w ⟨vr31, rfl, hm_, hr_⟩; refine ⟨_, rfl, ?_⟩; clear hF; intro a hF; have hH := Hp.rowOut hH 31 hm_ hr_; obtain ⟨Ar31, cr31, rfl⟩ := (hH.row 31 rfl).form
 refine hK _ _ ?_; clear hK K
 refine l_at hF rfl rfl rfl (x_move (hF.tmp 31 rfl)) ?_; clear hF; intro a hF
 refine l_at hF rfl rfl rfl (x_extract (hF.tmp 29 rfl) rfl) ?_; clear hF; intro a hF
 refine l_at hF rfl rfl rfl (x_extract (hF.tmp 29 rfl) rfl) ?_; clear hF; intro a hF
 refine l_at hF rfl rfl rfl (x_assign (hF.tmp 32 rfl)) ?_; clear hF; intro a hF
 have hH := hH.freeze 31 rfl (fun kb => (Value.slice Ar31 (fnd dl 1).length cr31).ownBlock = some kb) (fun kb => ⟨fun h => .inr h, fun h => h.resolve_left id⟩)
 refine l_at hF rfl rfl rfl (x_assign (hF.tmp 33 rfl)) ?_; clear hF; intro a hF
 refine wpList_nil ?_
 refine hK3 _ _ ?_
 refine wp_seq_k fun khK4 hK4 => ?_
 refine wp_region_lit ?_
 refine l_at hF rfl rfl rfl (x_move (hF.tmp 4 rfl)) ?_; clear hF; intro a hF
 refine wpList_plain rfl fun K hK => ?_
 refine w_call hF (x_enter Tryd.func65 (by kernel_rfl) rfl (by simp only [List.map_toArray, List.map_cons, List.map_nil, hF.tmp 35 rfl] <;> rfl)) (dfind_calls _ 2 ((hH.rd 19 rfl)) hsh) rfl rfl ?_
 rintro _ w ⟨vr36, rfl, hm_, hr_⟩; refine ⟨_, rfl, ?_⟩; clear hF; intro a hF; have hH := Hp.rowOut hH 36 hm_ hr_; obtain ⟨Ar36, cr36, rfl⟩ := (hH.row 36 rfl).form
 refine hK _ _ ?_; clear hK K
 refine l_at hF rfl rfl rfl (x_move (hF.tmp 36 rfl)) ?_; clear hF; intro a hF
 refine l_at hF rfl rfl rfl (x_extract (hF.tmp 34 rfl) rfl) ?_; clear hF; intro a hF
 refine l_at hF rfl rfl rfl (x_extract (hF.tmp 34 rfl) rfl) ?_; clear hF; intro a hF
 refine l_at hF rfl rfl rfl (x_assign (hF.tmp 37 rfl)) ?_; clear hF; intro a hF
 refine l_at hF rfl rfl rfl (x_assign (hF.tmp 38 rfl)) ?_; clear hF; intro a hF
 refine wpList_nil ?_
 refine hK4 _ _ ?_
 refine wp_seq_k fun khK5 hK5 => ?_
 refine wp_region_lit ?_
 refine l_at hF rfl rfl rfl (x_move (hF.tmp 8 rfl)) ?_; clear hF; intro a hF
 refine wpList_plain rfl fun K hK => ?_
 refine w_call hF (x_enter Tryd.func66 (by kernel_rfl) rfl (by simp only [List.map_toArray, List.map_cons, List.map_nil, hF.tmp 40 rfl] <;> rfl)) (num_calls _ (Row.rd (ok' := fun k_ => (fun _ => False) k_ ∨ (.slice Ar36 (fnd dl 2).length cr36 : Value).ownBlock = some k_) (hH.row 36 rfl) (fun _ hk_ _ => .inl hk_) (fun _ hk_ => .inr hk_)) (fnd_byte hbf 2)) rfl rfl ?_
 rintro _ w ⟨rfl, hm_⟩; refine ⟨_, rfl, ?_⟩; clear hF; intro a hF; have hH := hH.same hm_
 refine hK _ _ ?_; clear hK K
 refine l_at hF rfl rfl rfl (x_move (hF.tmp 41 rfl)) ?_; clear hF; intro a hF
 refine l_at hF rfl rfl rfl (x_extract (hF.tmp 39 rfl) rfl) ?_; clear hF; intro a hF
 refine l_at hF rfl rfl rfl (x_extract (hF.tmp 39 rfl) rfl) ?_; clear hF; intro a hF
 refine l_at hF rfl rfl rfl (x_assign (hF.tmp 42 rfl)) ?_; clear hF; intro a hF
 refine l_at hF rfl rfl rfl (x_assign (hF.tmp 43 rfl)) ?_; clear hF; intro a hF
 refine wpList_nil ?_
 refine hK5 _ _ ?_
 refine wp_seq_k fun khK6 hK6 => ?_
 refine wp_seq_k fun khK7 hK7 => ?_
 refine wp_region_lit ?_
 refine l_at hF rfl rfl rfl (x_move (hF.tmp 5 rfl)) ?_; clear hF; intro a hF
 refine l_at hF rfl rfl rfl (x_neq (hF.tmp 44 rfl) rfl) ?_; clear hF; intro a hF
 refine l_at hF rfl rfl rfl (x_move (hF.tmp 45 rfl)) ?_; clear hF; intro a hF
 refine split_bool hF 46 rfl (fun hb46 => ?_) (fun hb46 => ?_)
 ·have hc46 := hb46; try simp only [Bool.or_eq_true, Bool.and_eq_true, Bool.or_eq_false_iff, Bool.and_eq_false_iff, Bool.not_eq_true', Bool.not_eq_false', decide_eq_true_eq, decide_eq_false_iff_not, Bool.not_true, Bool.not_false] at hc46
  have hz : NoQ bs := noQ_none (by cases hd : decR (bodyM bs) with | none => rfl | some l => rw [hd] at hc46; exact absurd rfl hc46)
  refine l_offg hF ((wanted_of hF rfl rfl rfl rfl).trans (by rw [hb46]; rfl)) rfl rfl ?_; clear hF; intro a hF
  refine l_offg hF ((wanted_of hF rfl rfl rfl rfl).trans (by rw [hb46]; rfl)) rfl rfl ?_; clear hF; intro a hF
  refine l_at hF rfl rfl rfl (x_pickT (hF.tmp 46 rfl) hb46 rfl) ?_; clear hF; intro a hF
  refine l_at hF rfl rfl rfl (x_move (hF.tmp 49 rfl)) ?_; clear hF; intro a hF
  refine l_offg hF ((wanted_of hF rfl rfl rfl rfl).trans rfl) rfl rfl ?_; clear hF; intro a hF
  refine l_offg hF ((wanted_of hF rfl rfl rfl rfl).trans rfl) rfl rfl ?_; clear hF; intro a hF
  refine l_at hF rfl rfl rfl (x_pickT (hF.tmp 50 rfl) rfl rfl) ?_; clear hF; intro a hF
  refine wpList_nil ?_
  refine hK7 _ _ ?_
  refine wp_cond_true (hF.tmp 53 rfl) ?_
  refine wp_seq_k fun khK8 hK8 => ?_
  refine wp_region_lit ?_
  refine l_at hF rfl rfl rfl (x_buildS (cells := #[.string (strOfNums []), .int .i64 0, .slice none 0 0]) (places := #[(0, 1), (1, 1), (2, 1)]) Tryd.underlying45 ty45 (by kernel_rfl) Array.map_empty rfl) ?_; clear hF; intro a hF
  refine wpList_plain rfl fun K hK => ?_
  refine w_storeA 2 hH ty45 rfl (hF.tmp 2 rfl) (hF.tmp 54 rfl) rfl (by simp [Value.cells, Value.oneCell']) rfl ?_
  clear hH; intro w hH
  refine hK _ _ ?_; clear hK K
  refine l_at hF rfl rfl rfl (x_assign rfl) ?_; clear hF; intro a hF
  refine wpList_nil ?_
  refine hK8 _ _ ?_
  refine wp_ret ?_
  try simp only [Exit.then, Exit.inBlock]
  exact fin_ret hF (resct hF rfl rfl rfl (hH.at 2 rfl) ty45 rfl) ⟨zR, none, 0, (fun _ => False), 221, rfl, hH.mods, Rd.nil _ _ _, (fun k h => h.elim), DecQ.no hz⟩
 ·have hc46 := hb46; try simp only [Bool.or_eq_true, Bool.and_eq_true, Bool.or_eq_false_iff, Bool.and_eq_false_iff, Bool.not_eq_true', Bool.not_eq_false', decide_eq_true_eq, decide_eq_false_iff_not, Bool.not_true, Bool.not_false] at hc46
  have hdec : decR (bodyM bs) = some dl := by rw [hdl]; cases hd : decR (bodyM bs) with | some l => rfl | none => rw [hd] at hc46; exact absurd hc46 (by decide)
  have hfew := dl_few ((hby : Byte _).take _) hdec
  refine l_atg hF ((wanted_of hF rfl rfl rfl rfl).trans (by rw [hb46]; rfl)) rfl rfl (x_move (hF.tmp 11 rfl)) ?_; clear hF; intro a hF
  refine l_atg hF ((wanted_of hF rfl rfl rfl rfl).trans (by rw [hb46]; rfl)) rfl rfl (x_not (hF.tmp 47 rfl)) ?_; clear hF; intro a hF
  refine l_at hF rfl rfl rfl (x_pickF (hF.tmp 46 rfl) hb46 (hF.tmp 48 rfl)) ?_; clear hF; intro a hF
  refine l_at hF rfl rfl rfl (x_move (hF.tmp 49 rfl)) ?_; clear hF; intro a hF
  refine split_bool hF 50 rfl (fun hb50 => ?_) (fun hb50 => ?_)
  ·have hc50 := hb50; try simp only [Bool.or_eq_true, Bool.and_eq_true, Bool.or_eq_false_iff, Bool.and_eq_false_iff, Bool.not_eq_true', Bool.not_eq_false', decide_eq_true_eq, decide_eq_false_iff_not, Bool.not_true, Bool.not_false] at hc50
   have hz : NoQ bs := noQ_head hdec (fun h => by rw [h.1] at hc50; exact absurd hc50 (by decide))
   refine l_offg hF ((wanted_of hF rfl rfl rfl rfl).trans (by rw [hb50]; rfl)) rfl rfl ?_; clear hF; intro a hF
   refine l_offg hF ((wanted_of hF rfl rfl rfl rfl).trans (by rw [hb50]; rfl)) rfl rfl ?_; clear hF; intro a hF
   refine l_at hF rfl rfl rfl (x_pickT (hF.tmp 50 rfl) hb50 rfl) ?_; clear hF; intro a hF
   refine wpList_nil ?_
   refine hK7 _ _ ?_
   refine wp_cond_true (hF.tmp 53 rfl) ?_
   refine wp_seq_k fun khK9 hK9 => ?_
   refine wp_region_lit ?_
   refine l_at hF rfl rfl rfl (x_buildS (cells := #[.string (strOfNums []), .int .i64 0, .slice none 0 0]) (places := #[(0, 1), (1, 1), (2, 1)]) Tryd.underlying45 ty45 (by kernel_rfl) Array.map_empty rfl) ?_; clear hF; intro a hF
   refine wpList_plain rfl fun K hK => ?_
   refine w_storeA 2 hH ty45 rfl (hF.tmp 2 rfl) (hF.tmp 54 rfl) rfl (by simp [Value.cells, Value.oneCell']) rfl ?_
   clear hH; intro w hH
   refine hK _ _ ?_; clear hK K
   refine l_at hF rfl rfl rfl (x_assign rfl) ?_; clear hF; intro a hF
   refine wpList_nil ?_
   refine hK9 _ _ ?_
   refine wp_ret ?_
   try simp only [Exit.then, Exit.inBlock]
   exact fin_ret hF (resct hF rfl rfl rfl (hH.at 2 rfl) ty45 rfl) ⟨zR, none, 0, (fun _ => False), 221, rfl, hH.mods, Rd.nil _ _ _, (fun k h => h.elim), DecQ.no hz⟩
  ·have hc50 := hb50; try simp only [Bool.or_eq_true, Bool.and_eq_true, Bool.or_eq_false_iff, Bool.and_eq_false_iff, Bool.not_eq_true', Bool.not_eq_false', decide_eq_true_eq, decide_eq_false_iff_not, Bool.not_true, Bool.not_false] at hc50
   refine l_atg hF ((wanted_of hF rfl rfl rfl rfl).trans (by rw [hb50]; rfl)) rfl rfl (x_move (hF.tmp 10 rfl)) ?_; clear hF; intro a hF
   refine l_atg hF ((wanted_of hF rfl rfl rfl rfl).trans (by rw [hb50]; rfl)) rfl rfl (x_gtr (hF.tmp 51 rfl) rfl) ?_; clear hF; intro a hF
   refine l_at hF rfl rfl rfl (x_pickF (hF.tmp 50 rfl) hb50 (hF.tmp 52 rfl)) ?_; clear hF; intro a hF
   refine wpList_nil ?_
   refine hK7 _ _ ?_
   refine wp_cond_split (hF.tmp 53 rfl) (fun hc53 => ?_) (fun hc53 => ?_)
   ·have hk53_1 := hc53; try simp only [Bool.or_eq_true, Bool.and_eq_true, Bool.or_eq_false_iff, Bool.and_eq_false_iff, Bool.not_eq_true', Bool.not_eq_false', decide_eq_true_eq, decide_eq_false_iff_not, Bool.not_true, Bool.not_false] at hc53
    have hz : NoQ bs := noQ_head hdec (fun h => h.2 hc53)
    refine wp_seq_k fun khK10 hK10 => ?_
    refine wp_region_lit ?_
    refine l_at hF rfl rfl rfl (x_buildS (cells := #[.string (strOfNums []), .int .i64 0, .slice none 0 0]) (places := #[(0, 1), (1, 1), (2, 1)]) Tryd.underlying45 ty45 (by kernel_rfl) Array.map_empty rfl) ?_; clear hF; intro a hF
    refine wpList_plain rfl fun K hK => ?_
    refine w_storeA 2 hH ty45 rfl (hF.tmp 2 rfl) (hF.tmp 54 rfl) rfl (by simp [Value.cells, Value.oneCell']) rfl ?_
    clear hH; intro w hH
    refine hK _ _ ?_; clear hK K
    refine l_at hF rfl rfl rfl (x_assign rfl) ?_; clear hF; intro a hF
    refine wpList_nil ?_
    refine hK10 _ _ ?_
    refine wp_ret ?_
    try simp only [Exit.then, Exit.inBlock]
    exact fin_ret hF (resct hF rfl rfl rfl (hH.at 2 rfl) ty45 rfl) ⟨zR, none, 0, (fun _ => False), 221, rfl, hH.mods, Rd.nil _ _ _, (fun k h => h.elim), DecQ.no hz⟩
   ·have hk53_2 := hc53; try simp only [Bool.or_eq_true, Bool.and_eq_true, Bool.or_eq_false_iff, Bool.and_eq_false_iff, Bool.not_eq_true', Bool.not_eq_false', decide_eq_true_eq, decide_eq_false_iff_not, Bool.not_true, Bool.not_false] at hc53
    refine wp_skip ?_
    refine hK6 _ _ ?_
    refine wp_seq_k fun khK11 hK11 => ?_
    refine wp_region_lit ?_
    refine l_at hF rfl rfl rfl (x_move (hF.tmp 6 rfl)) ?_; clear hF; intro a hF
    refine l_at hF rfl rfl rfl (x_b2s Tryd.underlying28 Tryd.underlying5 Tryd.underlying9 ((hH.rd 31 rfl)) (hF.tmp 55 rfl)) ?_; clear hF; intro a hF
    refine l_at hF rfl rfl rfl (x_move (hF.tmp 10 rfl)) ?_; clear hF; intro a hF
    refine l_at hF rfl rfl rfl (x_conv Tryd.underlying3 ⟨_, Tryd.underlying34⟩ (hF.tmp 57 rfl) (w64 (by have := numV_range (fnd_byte hbf 2); omega) (by have := numV_range (fnd_byte hbf 2); omega))) ?_; clear hF; intro a hF
    refine l_at hF rfl rfl rfl (x_buildS (cells := #[.string (strOfNums (fnd dl 1)), .int .i64 (numV (fnd dl 2)), .slice none 0 0]) (places := #[(0, 1), (1, 1), (2, 1)]) Tryd.underlying45 ty45 (by kernel_rfl) (by simp only [List.map_toArray, List.map_cons, List.map_nil, hF.tmp 56 rfl, hF.tmp 58 rfl] <;> rfl) rfl) ?_; clear hF; intro a hF
    refine wpList_plain rfl fun K hK => ?_
    refine w_alloc 12 hF hH rfl ty45 ?_
    clear hF hH; intro a w b12 hF hH
    refine hK _ _ ?_; clear hK K
    refine wpList_plain rfl fun K hK => ?_
    refine w_storeA 12 hH ty45 rfl (hF.tmp 12 rfl) (hF.tmp 59 rfl) rfl (by simp [Value.cells, Value.oneCell']) rfl ?_
    clear hH; intro w hH
    refine hK _ _ ?_; clear hK K
    refine wpList_nil ?_
    refine hK11 _ _ ?_
    refine wp_seq_k fun khK12 hK12 => ?_
    refine wp_seq_k fun khK13 hK13 => ?_
    refine wp_region_lit ?_
    have hH := hH.row0 61 OpdE 55
    refine l_at hF rfl rfl rfl (x_move (hF.tmp 4 rfl)) ?_; clear hF; intro a hF
    refine l_at hF rfl rfl rfl (x_len_slice Tryd.underlying100 (hF.tmp 60 rfl)) ?_; clear hF; intro a hF
    refine l_at hF rfl rfl rfl (x_move rfl) ?_; clear hF; intro a hF
    refine wpList_nil ?_
    refine hK13 _ _ ?_
    refine wp_block ?_
    refine wp_loop_ghost (fun n_ a w => ∃ k : Nat, ∃ Ao : Option Addr, ∃ co : Nat, ∃ os : List OpD, ∃ oko : Nat → Prop, n_ = dl.length - k ∧ (k ≤ dl.length) ∧ (QInv dl k os) ∧ (∀ o ∈ os, OpB o) ∧ (os.length ≤ k) ∧ (∀ kb, oko kb → w0.heap.size ≤ kb) ∧ Fr 100 a [(0, .slice A bs.length c), (2, .pointer (some ⟨b2, 0, none⟩)), (12, .pointer (some ⟨b12, 0, none⟩)), (60, .slice Ar19 dl.length cr19), (61, .int .i64 (dl.length : Int)), (62, .int .i64 (k : Int))] ∧ Hp (fun _ => False) w0 w [(901, .rd_ (.int .u8) A bs c (fun k => k < w0.heap.size)), (990, .lib true), (2, .blk b2 (.cells #[.string (strOfNums []), .int .i64 0, .slice none 0 0] 45 (0, 0))), (19, .rd_ FE Ar19 dl cr19 (fun kb => okr19 kb ∨ (Value.slice Ar19 dl.length cr19).ownBlock = some kb)), (31, .rd_ (.int .u8) Ar31 (fnd dl 1) cr31 (fun kb => (Value.slice Ar31 (fnd dl 1).length cr31).ownBlock = some kb)), (36, .row (.int .u8) 5 (.slice Ar36 (fnd dl 2).length cr36) (fnd dl 2) (fun _ => False)), (12, .blk b12 (.cells #[.string (strOfNums (fnd dl 1)), .int .i64 (numV (fnd dl 2)), .slice Ao os.length co] 45 (0, 0))), (61, .row OpdE 55 (.slice Ao os.length co) os oko)]) (dl.length) ?_ ?_
    ·exact ⟨0, none, 0, [], (fun _ => False), rfl, by omega, QInv.start dl, (fun o ho => by cases ho), by simp, (fun kb h => h.elim), ((((((hF.bare.add hF 62 rfl).add hF 61 rfl).add hF 60 rfl).add hF 12 rfl).add hF 2 rfl).add hF 0 rfl), hH.sub _ (sub_cons (sub_cons (sub_cons (sub_cons (sub_cons (sub_cons (sub_cons (sub_cons (sub_nil _) 61 rfl) 12 rfl) 36 rfl) 31 rfl) 19 rfl) 2 rfl) 990 rfl) 901 rfl)⟩
    ·rintro _ a w ⟨k, Ao, co, os, oko, rfl, hq0_0, hq0_1, hq0_2, hq0_3, hq0_4, hF, hH⟩
     refine wp_seq_k fun khK14 hK14 => ?_
     refine wp_region_lit ?_
     refine l_at hF rfl rfl rfl (x_lss (hF.tmp 62 rfl) (hF.tmp 61 rfl)) ?_; clear hF; intro a hF
     refine wpList_nil ?_
     refine hK14 _ _ ?_
     refine wp_seq_k fun khK15 hK15 => ?_
     refine wp_cond_split (hF.tmp 63 rfl) (fun hc63 => ?_) (fun hc63 => ?_)
     ·have hk63_3 := hc63; try simp only [Bool.or_eq_true, Bool.and_eq_true, Bool.or_eq_false_iff, Bool.and_eq_false_iff, Bool.not_eq_true', Bool.not_eq_false', decide_eq_true_eq, decide_eq_false_iff_not, Bool.not_true, Bool.not_false] at hc63
      refine wp_skip ?_
      refine hK15 _ _ ?_
      refine wp_seq_k fun khK16 hK16 => ?_
      refine wp_block ?_
      refine wp_seq_k fun khK17 hK17 => ?_
      refine wp_region_lit ?_
      obtain ⟨fA1, fc1, hfr1, hf1_0, hf1_1, hfw1⟩ := Rd.fld ((hH.rd 19 rfl)) (gf_some (xs := dl) (i := (k : Int)) (by omega) (by omega))
      have hH := hH.subrd 19 rfl 1001 hfr1 (fun _ h => h)
      have hH := hH.subcels 19 rfl 1499 hfw1 (Rd.inok ((hH.rd 19 rfl)) (by omega) _)
      have hH := hH.subcel 19 rfl 1500 hf1_0 (Rd.inok ((hH.rd 19 rfl)) (by omega) _)
      have hH := hH.subcel 19 rfl 1501 hf1_1 (Rd.inok ((hH.rd 19 rfl)) (by omega) _)
      have hmk := gf_in (xs := dl) (i := (k : Int)) (by omega) (by omega)
      refine l_at hF rfl rfl rfl (x_iaddr_A Tryd.underlying100 ty99 ((hH.rd 19 rfl)) (hF.tmp 60 rfl) (hF.tmp 62 rfl) (by omega) (by omega) _) ?_; clear hF; intro a hF
      refine l_at hF rfl rfl rfl (x_loadn ty99 (hF.tmp 64 rfl) rfl (hH.holds 1499 _ rfl)) ?_; clear hF; intro a hF
      refine wpList_plain rfl fun K hK => ?_
      refine w_alloc 14 hF hH rfl ty99 ?_
      clear hF hH; intro a w b14 hF hH
      refine hK _ _ ?_; clear hK K
      refine wpList_plain rfl fun K hK => ?_
      refine w_storeA 14 hH ty99 rfl (hF.tmp 14 rfl) (hF.tmp 65 rfl) rfl (by simp [Value.cells, Value.oneCell']) rfl ?_
      clear hH; intro w hH
      refine hK _ _ ?_; clear hK K
      refine wpList_nil ?_
      refine hK17 _ _ ?_
      refine wp_seq_k fun khK18 hK18 => ?_
      refine wp_seq_k fun khK19 hK19 => ?_
      refine wp_region_lit ?_
      refine l_at hF rfl rfl rfl (x_faddr Tryd.underlying99 rfl ty3 (by decide) (hF.tmp 14 rfl) rfl) ?_; clear hF; intro a hF
      refine l_at hF rfl rfl rfl (x_load1 ty3 (hF.tmp 66 rfl) (blk_cell (hH.at 14 rfl) 0 rfl)) ?_; clear hF; intro a hF
      refine l_at hF rfl rfl rfl (x_neq (hF.tmp 67 rfl) rfl) ?_; clear hF; intro a hF
      refine wpList_nil ?_
      refine hK19 _ _ ?_
      refine wp_cond_split (hF.tmp 68 rfl) (fun hc68 => ?_) (fun hc68 => ?_)
      ·have hk68_4 := hc68; try simp only [Bool.or_eq_true, Bool.and_eq_true, Bool.or_eq_false_iff, Bool.and_eq_false_iff, Bool.not_eq_true', Bool.not_eq_false', decide_eq_true_eq, decide_eq_false_iff_not, Bool.not_true, Bool.not_false] at hc68
       refine wp_exit ?_
       refine hK16 _ _ ?_
       refine wp_region_lit ?_
       refine l_at hF rfl rfl rfl (x_add (hF.tmp 62 rfl) rfl (w64 (by omega) (by omega))) ?_; clear hF; intro a hF
       refine l_at hF rfl rfl rfl (x_move (hF.tmp 84 rfl)) ?_; clear hF; intro a hF
       refine wpList_nil ?_
       exact ⟨_, by omega, ⟨k + 1, Ao, co, os, oko, rfl, by omega, hq0_1.skip hc63 hc68, hq0_2, by omega, hq0_4, ((((((hF.bare.add hF 62 rfl).add hF 61 rfl).add hF 60 rfl).add hF 12 rfl).add hF 2 rfl).add hF 0 rfl), hH.sub _ (sub_cons (sub_cons (sub_cons (sub_cons (sub_cons (sub_cons (sub_cons (sub_cons (sub_nil _) 61 rfl) 12 rfl) 36 rfl) 31 rfl) 19 rfl) 2 rfl) 990 rfl) 901 rfl)⟩⟩
      ·have hk68_5 := hc68; try simp only [Bool.or_eq_true, Bool.and_eq_true, Bool.or_eq_false_iff, Bool.and_eq_false_iff, Bool.not_eq_true', Bool.not_eq_false', decide_eq_true_eq, decide_eq_false_iff_not, Bool.not_true, Bool.not_false] at hc68
       refine wp_skip ?_
       refine hK18 _ _ ?_
       refine wp_seq_k fun khK20 hK20 => ?_
       refine wp_region_lit ?_
       refine l_at hF rfl rfl rfl (x_faddr Tryd.underlying99 rfl ty28 (by decide) (hF.tmp 14 rfl) rfl) ?_; clear hF; intro a hF
       refine l_at hF rfl rfl rfl (x_load1 ty28 (hF.tmp 70 rfl) (blk_cell (hH.at 14 rfl) 1 rfl)) ?_; clear hF; intro a hF
       refine wpList_plain rfl fun K hK => ?_
       refine w_call hF (x_enter Tryd.func73 (by kernel_rfl) rfl (by simp only [List.map_toArray, List.map_cons, List.map_nil, hF.tmp 71 rfl] <;> rfl)) (read_calls _ (hH.holds 990 _ rfl) ((hH.rd 1001 rfl)) (hbf _ hmk)) rfl rfl ?_
       rintro _ w ⟨o, Ad, cd, ob, rfl, hm_, hr_, hO_⟩; refine ⟨_, rfl, ?_⟩; clear hF; intro a hF; have hH := Hp.rowOut hH 70 hm_ hr_
       refine hK _ _ ?_; clear hK K
       refine l_at hF rfl rfl rfl (x_move (hF.tmp 72 rfl)) ?_; clear hF; intro a hF
       refine l_at hF rfl rfl rfl (x_extract (hF.tmp 69 rfl) rfl) ?_; clear hF; intro a hF
       refine l_at hF rfl rfl rfl (x_extract (hF.tmp 69 rfl) rfl) ?_; clear hF; intro a hF
       refine wpList_plain rfl fun K hK => ?_
       refine w_alloc 15 hF hH rfl ty55 ?_
       clear hF hH; intro a w b15 hF hH
       refine hK _ _ ?_; clear hK K
       refine wpList_plain rfl fun K hK => ?_
       refine w_storeA 15 hH ty55 rfl (hF.tmp 15 rfl) (hF.tmp 73 rfl) rfl (by simp [Value.cells, Value.oneCell']) rfl ?_
       clear hH; intro w hH
       refine hK _ _ ?_; clear hK K
       refine l_at hF rfl rfl rfl (x_assign (hF.tmp 74 rfl)) ?_; clear hF; intro a hF
       refine wpList_nil ?_
       refine hK20 _ _ ?_
       refine wp_seq_k fun khK21 hK21 => ?_
       refine wp_seq_k fun khK22 hK22 => ?_
       refine wp_region_lit ?_
       refine l_at hF rfl rfl rfl (x_move (hF.tmp 16 rfl)) ?_; clear hF; intro a hF
       refine l_at hF rfl rfl rfl (x_not (hF.tmp 75 rfl)) ?_; clear hF; intro a hF
       refine wpList_nil ?_
       refine hK22 _ _ ?_
       refine wp_cond_split (hF.tmp 76 rfl) (fun hc76 => ?_) (fun hc76 => ?_)
       ·have hk76_6 := hc76; try simp only [Bool.or_eq_true, Bool.and_eq_true, Bool.or_eq_false_iff, Bool.and_eq_false_iff, Bool.not_eq_true', Bool.not_eq_false', decide_eq_true_eq, decide_eq_false_iff_not, Bool.not_true, Bool.not_false] at hc76
        have hz : NoQ bs := noQ_op hdec hc63 hc68 hO_ hc76
        refine wp_seq_k fun khK23 hK23 => ?_
        refine wp_region_lit ?_
        refine l_at hF rfl rfl rfl (x_buildS (cells := #[.string (strOfNums []), .int .i64 0, .slice none 0 0]) (places := #[(0, 1), (1, 1), (2, 1)]) Tryd.underlying45 ty45 (by kernel_rfl) Array.map_empty rfl) ?_; clear hF; intro a hF
        refine wpList_plain rfl fun K hK => ?_
        refine w_storeA 2 hH ty45 rfl (hF.tmp 2 rfl) (hF.tmp 77 rfl) rfl (by simp [Value.cells, Value.oneCell']) rfl ?_
        clear hH; intro w hH
        refine hK _ _ ?_; clear hK K
        refine l_at hF rfl rfl rfl (x_assign rfl) ?_; clear hF; intro a hF
        refine wpList_nil ?_
        refine hK23 _ _ ?_
        refine wp_ret ?_
        try simp only [Exit.then, Exit.inBlock]
        exact fin_ret hF (resct hF rfl rfl rfl (hH.at 2 rfl) ty45 rfl) ⟨zR, none, 0, (fun _ => False), 221, rfl, hH.mods, Rd.nil _ _ _, (fun k h => h.elim), DecQ.no hz⟩
       ·have hk76_7 := hc76; try simp only [Bool.or_eq_true, Bool.and_eq_true, Bool.or_eq_false_iff, Bool.and_eq_false_iff, Bool.not_eq_true', Bool.not_eq_false', decide_eq_true_eq, decide_eq_false_iff_not, Bool.not_true, Bool.not_false] at hc76
        obtain rfl : ob = true := by simpa using hc76
        refine wp_skip ?_
        refine hK21 _ _ ?_
        refine wp_region_lit ?_
        have hfr70 : ∀ kb, (Value.slice Ad o.timer.steps.length cd).ownBlock = some kb → w0.heap.size ≤ kb := fun kb h => (hH.mine 70 _ rfl kb h).resolve_left (fun h => h)
        have hH := hH.freeze 70 rfl (fun kb => (Value.slice Ad o.timer.steps.length cd).ownBlock = some kb) (fun kb => ⟨fun h => .inr h, fun h => h.resolve_left id⟩)
        refine l_at hF rfl rfl rfl (x_faddr Tryd.underlying45 rfl ty43 (by decide) (hF.tmp 12 rfl) rfl) ?_; clear hF; intro a hF
        refine l_at hF rfl rfl rfl (x_load1 ty43 (hF.tmp 78 rfl) (blk_cell (hH.at 12 rfl) 2 rfl)) ?_; clear hF; intro a hF
        refine l_at hF rfl rfl rfl (x_loadn ty55 (hF.tmp 15 rfl) rfl (blk_whole (hH.at 15 rfl))) ?_; clear hF; intro a hF
        refine wpList_plain rfl fun K hK => ?_
        refine w_lit1 81 OpdE o #[.int .i64 o.kind, .string (strOfNums o.key), .int .i64 o.step.1, .string (strOfNums o.step.2.1), .string (strOfNums o.step.2.2.1), .int .i64 o.step.2.2.2, .string (strOfNums o.timer.name), .int .i64 o.timer.ver, .int .u64 o.timer.tick, .int .u64 o.timer.every, .slice Ad o.timer.steps.length cd] (fun kb => (Value.slice Ad o.timer.steps.length cd).ownBlock = some kb) hF hH rfl Tryd.underlying43 ty55 (by simp only [List.map_toArray, List.map_cons, List.map_nil, hF.tmp 80 rfl] <;> rfl) (by decide) (by kernel_rfl) (opd_mk o ((hH.rd 70 rfl))) (fun kb hk => ⟨70, _, rfl, hk⟩) ?_
        clear hF hH; intro a w b81 hF hb81_ hH
        refine hK _ _ ?_; clear hK K
        refine wpList_plain rfl fun K hK => ?_
        refine w_append 61 81 (xs := os) (ys := ([o])) hF hH rfl Tryd.underlying43 ty55 rfl rfl rfl rfl ((hH.rd 81 rfl)) (by intro k_ hk_; exact .inr hk_) (hF.tmp 79 rfl) (hF.tmp 81 rfl) (by simp only [List.length_append, List.length_nil, List.length_cons, List.length_map, List.length_take] at *; omega) (by simp only [List.length_append, List.length_nil, List.length_cons, List.length_map, List.length_take, maxLen] at *; omega) (fun kb => oko kb ∨ (fun kb => (fun kb => (Value.slice Ad o.timer.steps.length cd).ownBlock = some kb) kb ∨ kb = b81) kb) (fun w' v' h => h) (by rintro k_ (hk_ | hk_); exact .inl hk_; exact .inr hk_) ?_
        clear hF hH; intro a w v82 hF hH
        refine hK _ _ ?_; clear hK K
        obtain ⟨A82, c82, rfl⟩ := (hH.row 61 rfl).form
        refine l_at hF rfl rfl rfl (x_faddr Tryd.underlying45 rfl ty43 (by decide) (hF.tmp 12 rfl) rfl) ?_; clear hF; intro a hF
        refine wpList_plain rfl fun K hK => ?_
        refine w_store 12 hH ty43 rfl (hF.tmp 83 rfl) (hF.tmp 82 rfl) rfl (one1 rfl rfl) (by first | decide | exact Nat.le_of_ble_eq_true rfl) ?_
        clear hH; intro w hH
        refine hK _ _ ?_; clear hK K
        refine wpList_nil ?_
        refine hK16 _ _ ?_
        refine wp_region_lit ?_
        refine l_at hF rfl rfl rfl (x_add (hF.tmp 62 rfl) rfl (w64 (by omega) (by omega))) ?_; clear hF; intro a hF
        refine l_at hF rfl rfl rfl (x_move (hF.tmp 84 rfl)) ?_; clear hF; intro a hF
        refine wpList_nil ?_
        exact ⟨_, by omega, ⟨k + 1, A82, c82, (os ++ [o]), (fun kb => oko kb ∨ (fun kb => (fun kb => (Value.slice Ad o.timer.steps.length cd).ownBlock = some kb) kb ∨ kb = b81) kb), rfl, by omega, hq0_1.op hc63 hc68 hO_, (fun x hx => by rcases List.mem_append.1 hx with hx | hx; exact hq0_2 x hx; rw [List.mem_singleton.1 hx]; exact hO_.1), (by simp only [List.length_append, List.length_cons, List.length_nil]; omega), (fun kb h => by rcases h with h | h | rfl; exact hq0_4 kb h; exact hfr70 kb h; exact hb81_.resolve_left id), ((((((hF.bare.add hF 62 rfl).add hF 61 rfl).add hF 60 rfl).add hF 12 rfl).add hF 2 rfl).add hF 0 rfl), hH.sub _ (sub_cons (sub_cons (sub_cons (sub_cons (sub_cons (sub_cons (sub_cons (sub_cons (sub_nil _) 61 rfl) 12 rfl) 36 rfl) 31 rfl) 19 rfl) 2 rfl) 990 rfl) 901 rfl)⟩⟩
     ·have hk63_8 := hc63; try simp only [Bool.or_eq_true, Bool.and_eq_true, Bool.or_eq_false_iff, Bool.and_eq_false_iff, Bool.not_eq_true', Bool.not_eq_false', decide_eq_true_eq, decide_eq_false_iff_not, Bool.not_true, Bool.not_false] at hc63
      obtain rfl : k = dl.length := by omega
      have hMB : SReqB (zQ dl os) := ⟨fnd_byte hbf 1, (by have := numV_range (fnd_byte hbf 2); exact ⟨by show (_ : Int) ≤ numV _; omega, by show numV _ < (_ : Int); omega⟩), hq0_2⟩
      refine wp_exit ?_
      refine hK12 _ _ ?_
      refine wp_seq_k fun khK24 hK24 => ?_
      refine wp_seq_k fun khK25 hK25 => ?_
      refine wp_region_lit ?_
      refine l_at hF rfl rfl rfl (x_loadn ty45 (hF.tmp 12 rfl) rfl (blk_whole (hH.at 12 rfl))) ?_; clear hF; intro a hF
      refine wpList_plain rfl fun K hK => ?_
      refine w_call hF (x_enter Tryd.func38 (by kernel_rfl) rfl (by simp only [List.map_toArray, List.map_cons, List.map_nil, hF.tmp 86 rfl] <;> rfl)) (encQ_calls (r := (zQ dl os)) _ (hH.holds 990 _ rfl) (Row.rd (ok' := fun k_ => oko k_ ∨ (.slice Ao os.length co : Value).ownBlock = some k_) (hH.row 61 rfl) (fun _ hk_ _ => .inl hk_) (fun _ hk_ => .inr hk_)) hMB) rfl rfl ?_
      rintro _ w ⟨vr80, rfl, hm_, hr_⟩; refine ⟨_, rfl, ?_⟩; clear hF; intro a hF; have hH := Hp.rowOut hH 80 hm_ hr_; obtain ⟨Ar80, cr80, rfl⟩ := (hH.row 80 rfl).form
      refine hK _ _ ?_; clear hK K
      refine l_at hF rfl rfl rfl (x_move (hF.tmp 87 rfl)) ?_; clear hF; intro a hF
      refine l_at hF rfl rfl rfl (x_extract (hF.tmp 85 rfl) rfl) ?_; clear hF; intro a hF
      refine l_at hF rfl rfl rfl (x_extract (hF.tmp 85 rfl) rfl) ?_; clear hF; intro a hF
      refine l_at hF rfl rfl rfl (x_assign (hF.tmp 88 rfl)) ?_; clear hF; intro a hF
      refine l_at hF rfl rfl rfl (x_assign (hF.tmp 89 rfl)) ?_; clear hF; intro a hF
      refine wpList_nil ?_
      refine hK25 _ _ ?_
      refine wp_seq_k fun khK26 hK26 => ?_
      refine wp_region_lit ?_
      refine l_at hF rfl rfl rfl (x_move (hF.tmp 18 rfl)) ?_; clear hF; intro a hF
      refine l_at hF rfl rfl rfl (x_neq (hF.tmp 90 rfl) rfl) ?_; clear hF; intro a hF
      refine l_at hF rfl rfl rfl (x_move (hF.tmp 91 rfl)) ?_; clear hF; intro a hF
      refine split_bool hF 92 rfl (fun hb92 => ?_) (fun hb92 => ?_)
      ·have hc92 := hb92; try simp only [Bool.or_eq_true, Bool.and_eq_true, Bool.or_eq_false_iff, Bool.and_eq_false_iff, Bool.not_eq_true', Bool.not_eq_false', decide_eq_true_eq, decide_eq_false_iff_not, Bool.not_true, Bool.not_false] at hc92
       have hz : NoQ bs := noQ_end hdec hq0_1 (fun h => hc92 h.1)
       refine l_offg hF ((wanted_of hF rfl rfl rfl rfl).trans (by rw [hb92]; rfl)) rfl rfl ?_; clear hF; intro a hF
       refine l_offg hF ((wanted_of hF rfl rfl rfl rfl).trans (by rw [hb92]; rfl)) rfl rfl ?_; clear hF; intro a hF
       refine l_offg hF ((wanted_of hF rfl rfl rfl rfl).trans (by rw [hb92]; rfl)) rfl rfl ?_; clear hF; intro a hF
       refine l_offg hF ((wanted_of hF rfl rfl rfl rfl).trans (by rw [hb92]; rfl)) rfl rfl ?_; clear hF; intro a hF
       refine l_at hF rfl rfl rfl (x_pickT (hF.tmp 92 rfl) hb92 rfl) ?_; clear hF; intro a hF
       refine wpList_nil ?_
       refine hK26 _ _ ?_
       refine wp_cond_true (hF.tmp 97 rfl) ?_
       refine wp_seq_k fun khK27 hK27 => ?_
       refine wp_region_lit ?_
       refine l_at hF rfl rfl rfl (x_buildS (cells := #[.string (strOfNums []), .int .i64 0, .slice none 0 0]) (places := #[(0, 1), (1, 1), (2, 1)]) Tryd.underlying45 ty45 (by kernel_rfl) Array.map_empty rfl) ?_; clear hF; intro a hF
       refine wpList_plain rfl fun K hK => ?_
       refine w_storeA 2 hH ty45 rfl (hF.tmp 2 rfl) (hF.tmp 98 rfl) rfl (by simp [Value.cells, Value.oneCell']) rfl ?_
       clear hH; intro w hH
       refine hK _ _ ?_; clear hK K
       refine l_at hF rfl rfl rfl (x_assign rfl) ?_; clear hF; intro a hF
       refine wpList_nil ?_
       refine hK27 _ _ ?_
       refine wp_ret ?_
       try simp only [Exit.then, Exit.inBlock]
       exact fin_ret hF (resct hF rfl rfl rfl (hH.at 2 rfl) ty45 rfl) ⟨zR, none, 0, (fun _ => False), 221, rfl, hH.mods, Rd.nil _ _ _, (fun k h => h.elim), DecQ.no hz⟩
      ·have hc92 := hb92; try simp only [Bool.or_eq_true, Bool.and_eq_true, Bool.or_eq_false_iff, Bool.and_eq_false_iff, Bool.not_eq_true', Bool.not_eq_false', decide_eq_true_eq, decide_eq_false_iff_not, Bool.not_true, Bool.not_false] at hc92
       refine l_atg hF ((wanted_of hF rfl rfl rfl rfl).trans (by rw [hb92]; rfl)) rfl rfl (x_move (hF.tmp 17 rfl)) ?_; clear hF; intro a hF
       refine l_atg hF ((wanted_of hF rfl rfl rfl rfl).trans (by rw [hb92]; rfl)) rfl rfl (x_move (hF.tmp 0 rfl)) ?_; clear hF; intro a hF
       refine wpList_on ((wanted_of hF rfl rfl rfl rfl).trans (by rw [hb92]; rfl)) fun K hK => ?_
       refine w_call hF (x_enter Tryd.func68 (by kernel_rfl) rfl (by simp only [List.map_toArray, List.map_cons, List.map_nil, hF.tmp 93 rfl, hF.tmp 94 rfl] <;> rfl)) (bequal_calls _ (Row.rd (ok' := fun k_ => (fun _ => False) k_ ∨ (.slice Ar80 (encQ (zQ dl os)).length cr80 : Value).ownBlock = some k_) (hH.row 80 rfl) (fun _ hk_ _ => .inl hk_) (fun _ hk_ => .inr hk_)) ((hH.rd 901 rfl)) (encQ_byte hMB) hby) rfl rfl ?_
       rintro _ w ⟨rfl, hm_⟩; refine ⟨_, rfl, ?_⟩; clear hF; intro a hF; have hH := hH.same hm_
       refine hK _ _ ?_; clear hK K
       refine l_atg hF ((wanted_of hF rfl rfl rfl rfl).trans (by rw [hb92]; rfl)) rfl rfl (x_not (hF.tmp 95 rfl)) ?_; clear hF; intro a hF
       refine l_at hF rfl rfl rfl (x_pickF (hF.tmp 92 rfl) hb92 (hF.tmp 96 rfl)) ?_; clear hF; intro a hF
       refine wpList_nil ?_
       refine hK26 _ _ ?_
       refine wp_cond_split (hF.tmp 97 rfl) (fun hc97 => ?_) (fun hc97 => ?_)
       ·have hk97_9 := hc97; try simp only [Bool.or_eq_true, Bool.and_eq_true, Bool.or_eq_false_iff, Bool.and_eq_false_iff, Bool.not_eq_true', Bool.not_eq_false', decide_eq_true_eq, decide_eq_false_iff_not, Bool.not_true, Bool.not_false] at hc97
        have hz : NoQ bs := noQ_end hdec hq0_1 (fun h => hc97 h.2)
        refine wp_seq_k fun khK28 hK28 => ?_
        refine wp_region_lit ?_
        refine l_at hF rfl rfl rfl (x_buildS (cells := #[.string (strOfNums []), .int .i64 0, .slice none 0 0]) (places := #[(0, 1), (1, 1), (2, 1)]) Tryd.underlying45 ty45 (by kernel_rfl) Array.map_empty rfl) ?_; clear hF; intro a hF
        refine wpList_plain rfl fun K hK => ?_
        refine w_storeA 2 hH ty45 rfl (hF.tmp 2 rfl) (hF.tmp 98 rfl) rfl (by simp [Value.cells, Value.oneCell']) rfl ?_
        clear hH; intro w hH
        refine hK _ _ ?_; clear hK K
        refine l_at hF rfl rfl rfl (x_assign rfl) ?_; clear hF; intro a hF
        refine wpList_nil ?_
        refine hK28 _ _ ?_
        refine wp_ret ?_
        try simp only [Exit.then, Exit.inBlock]
        exact fin_ret hF (resct hF rfl rfl rfl (hH.at 2 rfl) ty45 rfl) ⟨zR, none, 0, (fun _ => False), 221, rfl, hH.mods, Rd.nil _ _ _, (fun k h => h.elim), DecQ.no hz⟩
       ·have hk97_10 := hc97; try simp only [Bool.or_eq_true, Bool.and_eq_true, Bool.or_eq_false_iff, Bool.and_eq_false_iff, Bool.not_eq_true', Bool.not_eq_false', decide_eq_true_eq, decide_eq_false_iff_not, Bool.not_true, Bool.not_false] at hc97
        refine wp_skip ?_
        refine hK24 _ _ ?_
        refine wp_seq_k fun khK29 hK29 => ?_
        refine wp_region_lit ?_
        refine l_at hF rfl rfl rfl (x_loadn ty45 (hF.tmp 12 rfl) rfl (blk_whole (hH.at 12 rfl))) ?_; clear hF; intro a hF
        refine wpList_plain rfl fun K hK => ?_
        refine w_storeA 2 hH ty45 rfl (hF.tmp 2 rfl) (hF.tmp 99 rfl) rfl (by simp [Value.cells, Value.oneCell']) rfl ?_
        clear hH; intro w hH
        refine hK _ _ ?_; clear hK K
        refine l_at hF rfl rfl rfl (x_assign rfl) ?_; clear hF; intro a hF
        refine wpList_nil ?_
        refine hK29 _ _ ?_
        refine wp_ret ?_
        try simp only [Exit.then, Exit.inBlock]
        have hE : encQE (zQ dl os) = 0 := by first | exact hc97 | exact hc92 | exact hc63 | exact hc53 | exact hc50 | exact hc46
        have hX : encQ (zQ dl os) = bs := by first | exact hc97 | exact hc92 | exact hc63 | exact hc53 | exact hc50 | exact hc46
        exact fin_ret hF (resct hF rfl rfl rfl (hH.at 2 rfl) ty45 rfl) ⟨(zQ dl os), Ao, co, (fun k => oko k ∨ (Value.slice Ao os.length co).ownBlock = some k), 0, rfl, hH.mods, Row.rd (hH.row 61 rfl) (fun k h _ => .inl h) (fun k h => .inr h), (fun k h => by rcases h with h | h; exact ⟨hq0_4 k h, hH.inb 61 _ rfl k (.inr h)⟩; exact ⟨(hH.mine 61 _ rfl k h).resolve_left id, hH.inb 61 _ rfl k (.inl h)⟩), ⟨hMB, .inl ⟨rfl, encQE0 hE, hX⟩⟩⟩
end Go.Proofs.YtiiklnghnifmjaaDoor.Act
