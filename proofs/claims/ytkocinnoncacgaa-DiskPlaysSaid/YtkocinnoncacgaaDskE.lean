/- The laws of disk, walked. -/
import Derived.Test.YtkocinnoncacgaaDskC
set_option linter.unusedVariables false
set_option linter.unusedSimpArgs false
namespace Go.Proofs.Ytkocinnoncacgaa.Dsk
open Go.RowKit Go.Proofs.Ytkocinnoncacgaa.Sx
set_option maxRecDepth 100000 in
set_option maxHeartbeats 1000000 in
theorem alive_calls (w0 : World) : Calls Try.prog 21 #[] w0 fun e w' => e = .returned (.bool true) ∧ Mods (fun _ => False) w0 w' := by
  refine calls_of_wp Try.func21 rfl ?_
  have hF := Fr.enter #[] 71 (slotsOf [] 0) (Nat.le_of_ble_eq_true rfl) (fun i v h => by have h2 := (get_slotsOf _ 0 i v h).2; simpa only [List.getElem?_toArray, Nat.sub_zero] using h2)
  have hH := Hp.nil (fun _ => False) w0
  rw [Try.ntmps21]
  revert hF; generalize (⟨(#[] : Array Value) ++ Array.replicate (71 - (#[] : Array Value).size) undef, []⟩ : Act) = a; intro hF
  refine wp_seq_k fun khK1 hK1 => ?_
  refine wp_region_lit ?_
  refine l_at hF rfl rfl rfl (x_assign rfl) ?_; clear hF; intro a hF
  refine wpList_nil ?_
  refine hK1 _ _ ?_
  refine wp_seq_k fun khK2 hK2 => ?_
  refine wp_region_lit ?_
  refine wpList_plain rfl fun K hK => ?_
  refine w_call hF (x_enter Try.func20 (by kernel_rfl) rfl (by simp only [List.map_toArray, List.map_cons, List.map_nil] <;> rfl)) (new_calls _) rfl rfl ?_
  rintro _ w ⟨bd1, X1, rfl, hD1, hok_, hm_, hn_, hr_⟩; refine ⟨_, rfl, ?_⟩; clear hF; intro a hF; have hH := hH.newX 70 hm_ hok_ hn_ (fun k h => (hr_ k h).elim)
  refine hK _ _ ?_; clear hK K
  refine l_at hF rfl rfl rfl (x_assign (hF.tmp 10 rfl)) ?_; clear hF; intro a hF
  refine wpList_nil ?_
  refine hK2 _ _ ?_
  refine wp_seq_k fun khK3 hK3 => ?_
  refine wp_seq_k fun khK4 hK4 => ?_
  refine wp_region_lit ?_
  refine l_at hF rfl rfl rfl (x_move (hF.tmp 1 rfl)) ?_; clear hF; intro a hF
  refine l_at hF rfl rfl rfl (x_ptrnil Try.underlying40 (hF.tmp 11 rfl) rfl) ?_; clear hF; intro a hF
  refine wpList_nil ?_
  refine hK4 _ _ ?_
  refine wp_cond_false (hF.tmp 12 rfl) ?_
  refine wp_skip ?_
  refine hK3 _ _ ?_
  refine wp_seq_k fun khK5 hK5 => ?_
  refine wp_region_lit ?_
  refine l_at hF rfl rfl rfl (x_move (hF.tmp 1 rfl)) ?_; clear hF; intro a hF
  refine wpList_plain rfl fun K hK => ?_
  refine w_lit 14 (enc := Value.int .u8) (h1 := fun _ => rfl) ([97, 98] : List Int) hF hH rfl Try.underlying42 ty5 rfl rfl (by decide) (by decide) (by kernel_rfl) ?_
  clear hF hH; intro a w b14 hF hH
  refine hK _ _ ?_; clear hK K
  refine wpList_plain rfl fun K hK => ?_
  refine w_mark 14 hF hH rfl Try.underlying42 Try.underlying5 rfl (hF.tmp 14 rfl) ?_
  clear hF hH; intro a w hF hH
  refine hK _ _ ?_; clear hK K
  refine wpList_plain rfl fun K hK => ?_
  refine w_call hF (x_enter Try.func22 (by kernel_rfl) rfl (by simp only [List.map_toArray, List.map_cons, List.map_nil, hF.tmp 13 rfl, hF.tmp 15 rfl] <;> rfl)) (app_calls _ hD1 (it_ok hH 70 rfl) 4 ((hH.rd 14 rfl)) (fun k hk => hH.inb 14 _ rfl k (.inr hk)) (fun k hk h => hH.sep 70 14 _ _ (by decide) rfl rfl k h (.inr hk))) rfl rfl ?_
  rintro _ w ⟨X1_1, rfl, hD1_1, hG_⟩; refine ⟨_, rfl, ?_⟩; clear hF; intro a hF; have hH := hH.grew 70 rfl hG_ (fun k h => h.elim)
  refine hK _ _ ?_; clear hK K
  have hme16 : appM ([] : DM) 4 ([97, 98] : List Int) = ([(4, ([97, 98], 0))] : DM) := by decide +kernel
  rw [hme16] at hD1_1
  rw [show appE ([] : DM) 4 ([97, 98] : List Int) = 0 by decide +kernel] at hF
  refine l_at hF rfl rfl rfl (x_assign (hF.tmp 16 rfl)) ?_; clear hF; intro a hF
  refine wpList_nil ?_
  refine hK5 _ _ ?_
  refine wp_seq_k fun khK6 hK6 => ?_
  refine wp_region_lit ?_
  refine l_at hF rfl rfl rfl (x_move (hF.tmp 1 rfl)) ?_; clear hF; intro a hF
  refine wpList_plain rfl fun K hK => ?_
  refine w_call hF (x_enter Try.func27 (by kernel_rfl) rfl (by simp only [List.map_toArray, List.map_cons, List.map_nil, hF.tmp 17 rfl] <;> rfl)) (sync_calls _ hD1_1 (it_ok hH 70 rfl) 4) rfl rfl ?_
  rintro _ w ⟨X1_2, rfl, hD1_2, hG_⟩; refine ⟨_, rfl, ?_⟩; clear hF; intro a hF; have hH := hH.grew 70 rfl hG_ (fun k h => h.elim)
  refine hK _ _ ?_; clear hK K
  have hme18 : syncM ([(4, ([97, 98], 0))] : DM) 4 = ([(4, ([97, 98], 2))] : DM) := by decide +kernel
  rw [hme18] at hD1_2
  rw [show atE ([(4, ([97, 98], 0))] : DM) 4 = 0 by decide +kernel] at hF
  refine l_at hF rfl rfl rfl (x_assign (hF.tmp 18 rfl)) ?_; clear hF; intro a hF
  refine wpList_nil ?_
  refine hK6 _ _ ?_
  refine wp_seq_k fun khK7 hK7 => ?_
  refine wp_region_lit ?_
  refine l_at hF rfl rfl rfl (x_move (hF.tmp 1 rfl)) ?_; clear hF; intro a hF
  refine wpList_plain rfl fun K hK => ?_
  refine w_lit 20 (enc := Value.int .u8) (h1 := fun _ => rfl) ([99, 100] : List Int) hF hH rfl Try.underlying42 ty5 rfl rfl (by decide) (by decide) (by kernel_rfl) ?_
  clear hF hH; intro a w b20 hF hH
  refine hK _ _ ?_; clear hK K
  refine wpList_plain rfl fun K hK => ?_
  refine w_mark 20 hF hH rfl Try.underlying42 Try.underlying5 rfl (hF.tmp 20 rfl) ?_
  clear hF hH; intro a w hF hH
  refine hK _ _ ?_; clear hK K
  refine wpList_plain rfl fun K hK => ?_
  refine w_call hF (x_enter Try.func22 (by kernel_rfl) rfl (by simp only [List.map_toArray, List.map_cons, List.map_nil, hF.tmp 19 rfl, hF.tmp 21 rfl] <;> rfl)) (app_calls _ hD1_2 (it_ok hH 70 rfl) 4 ((hH.rd 20 rfl)) (fun k hk => hH.inb 20 _ rfl k (.inr hk)) (fun k hk h => hH.sep 70 20 _ _ (by decide) rfl rfl k h (.inr hk))) rfl rfl ?_
  rintro _ w ⟨X1_3, rfl, hD1_3, hG_⟩; refine ⟨_, rfl, ?_⟩; clear hF; intro a hF; have hH := hH.grew 70 rfl hG_ (fun k h => h.elim)
  refine hK _ _ ?_; clear hK K
  have hme22 : appM ([(4, ([97, 98], 2))] : DM) 4 ([99, 100] : List Int) = ([(4, ([97, 98, 99, 100], 2))] : DM) := by decide +kernel
  rw [hme22] at hD1_3
  rw [show appE ([(4, ([97, 98], 2))] : DM) 4 ([99, 100] : List Int) = 0 by decide +kernel] at hF
  refine l_at hF rfl rfl rfl (x_assign (hF.tmp 22 rfl)) ?_; clear hF; intro a hF
  refine wpList_nil ?_
  refine hK7 _ _ ?_
  refine wp_seq_k fun khK8 hK8 => ?_
  refine wp_region_lit ?_
  refine l_at hF rfl rfl rfl (x_move (hF.tmp 1 rfl)) ?_; clear hF; intro a hF
  refine wpList_plain rfl fun K hK => ?_
  refine w_call hF (x_enter Try.func23 (by kernel_rfl) rfl (by simp only [List.map_toArray, List.map_cons, List.map_nil, hF.tmp 24 rfl] <;> rfl)) (read_calls _ hD1_3 (it_ok hH 70 rfl) 4 (by intro n; unfold getM al; split <;> simp [al])) rfl rfl ?_
  rintro _ w ⟨vr25, rfl, hm_, hr_⟩; refine ⟨_, rfl, ?_⟩; clear hF; intro a hF; have hH := Hp.rowOut hH 25 hm_ hr_; obtain ⟨Ar25, cr25, rfl⟩ := (hH.row 25 rfl).form
  refine hK _ _ ?_; clear hK K
  rw [show (getM ([(4, ([97, 98, 99, 100], 2))] : DM) 4).1 = ([97, 98, 99, 100] : List Int) by decide +kernel] at hF
  rw [show (getM ([(4, ([97, 98, 99, 100], 2))] : DM) 4).1 = ([97, 98, 99, 100] : List Int) by decide +kernel] at hH
  rw [show atE ([(4, ([97, 98, 99, 100], 2))] : DM) 4 = 0 by decide +kernel] at hF
  refine l_at hF rfl rfl rfl (x_move (hF.tmp 25 rfl)) ?_; clear hF; intro a hF
  refine l_at hF rfl rfl rfl (x_extract (hF.tmp 23 rfl) rfl) ?_; clear hF; intro a hF
  refine l_at hF rfl rfl rfl (x_extract (hF.tmp 23 rfl) rfl) ?_; clear hF; intro a hF
  refine l_at hF rfl rfl rfl (x_assign (hF.tmp 26 rfl)) ?_; clear hF; intro a hF
  refine l_at hF rfl rfl rfl (x_assign (hF.tmp 27 rfl)) ?_; clear hF; intro a hF
  refine wpList_nil ?_
  refine hK8 _ _ ?_
  refine wp_seq_k fun khK9 hK9 => ?_
  refine wp_region_lit ?_
  refine l_at hF rfl rfl rfl (x_move (hF.tmp 1 rfl)) ?_; clear hF; intro a hF
  refine wpList_plain rfl fun K hK => ?_
  refine w_lit 29 (enc := Value.int .i64) (h1 := fun _ => rfl) ([1] : List Int) hF hH rfl Try.underlying32 ty3 rfl rfl (by decide) (by decide) (by kernel_rfl) ?_
  clear hF hH; intro a w b29 hF hH
  refine hK _ _ ?_; clear hK K
  have hH := hH.freeze 29 rfl (fun k => (Value.slice (some ⟨b29, 0, none⟩) (([1] : List Int)).length (([1] : List Int)).length).ownBlock = some k) (fun k => ⟨fun h => .inr h, fun h => h.resolve_left id⟩)
  refine wpList_plain rfl fun K hK => ?_
  refine w_call hF (x_enter Try.func29 (by kernel_rfl) rfl (by simp only [List.map_toArray, List.map_cons, List.map_nil, hF.tmp 28 rfl, hF.tmp 29 rfl] <;> rfl)) (power_calls _ hD1_3 (it_ok hH 70 rfl) (by simp) ⟨by unfold Keys; decide, by decide, by decide⟩ ((hH.rd 29 rfl)) (by decide)) rfl rfl ?_
  rintro _ w ⟨bd2, mo2, X2, rfl, hD2, hok_, hm_, hn_, hr_, hperm2⟩; refine ⟨_, rfl, ?_⟩; clear hF; intro a hF; have hH := hH.newX 80 hm_ hok_ hn_ hr_
  refine hK _ _ ?_; clear hK K
  have hmo : mo2 = ([(4, ([97, 98, 99], 3))] : DM) := List.perm_singleton.1 (hperm2.trans (by rw [show powL ([(4, ([97, 98, 99, 100], 2))] : DM) [1] = ([(4, ([97, 98, 99], 3))] : DM) by decide +kernel]))
  rw [hmo] at hD2
  refine l_at hF rfl rfl rfl (x_assign (hF.tmp 30 rfl)) ?_; clear hF; intro a hF
  refine wpList_nil ?_
  refine hK9 _ _ ?_
  refine wp_seq_k fun khK10 hK10 => ?_
  refine wp_seq_k fun khK11 hK11 => ?_
  refine wp_region_lit ?_
  refine l_at hF rfl rfl rfl (x_move (hF.tmp 7 rfl)) ?_; clear hF; intro a hF
  refine l_at hF rfl rfl rfl (x_ptrnil Try.underlying40 (hF.tmp 31 rfl) rfl) ?_; clear hF; intro a hF
  refine wpList_nil ?_
  refine hK11 _ _ ?_
  refine wp_cond_false (hF.tmp 32 rfl) ?_
  refine wp_skip ?_
  refine hK10 _ _ ?_
  refine wp_seq_k fun khK12 hK12 => ?_
  refine wp_region_lit ?_
  refine l_at hF rfl rfl rfl (x_move (hF.tmp 7 rfl)) ?_; clear hF; intro a hF
  refine wpList_plain rfl fun K hK => ?_
  refine w_call hF (x_enter Try.func23 (by kernel_rfl) rfl (by simp only [List.map_toArray, List.map_cons, List.map_nil, hF.tmp 34 rfl] <;> rfl)) (read_calls _ hD2 (it_ok hH 80 rfl) 4 (by intro n; unfold getM al; split <;> simp [al])) rfl rfl ?_
  rintro _ w ⟨vr35, rfl, hm_, hr_⟩; refine ⟨_, rfl, ?_⟩; clear hF; intro a hF; have hH := Hp.rowOut hH 35 hm_ hr_; obtain ⟨Ar35, cr35, rfl⟩ := (hH.row 35 rfl).form
  refine hK _ _ ?_; clear hK K
  rw [show (getM ([(4, ([97, 98, 99], 3))] : DM) 4).1 = ([97, 98, 99] : List Int) by decide +kernel] at hF
  rw [show (getM ([(4, ([97, 98, 99], 3))] : DM) 4).1 = ([97, 98, 99] : List Int) by decide +kernel] at hH
  rw [show atE ([(4, ([97, 98, 99], 3))] : DM) 4 = 0 by decide +kernel] at hF
  refine l_at hF rfl rfl rfl (x_move (hF.tmp 35 rfl)) ?_; clear hF; intro a hF
  refine l_at hF rfl rfl rfl (x_extract (hF.tmp 33 rfl) rfl) ?_; clear hF; intro a hF
  refine l_at hF rfl rfl rfl (x_extract (hF.tmp 33 rfl) rfl) ?_; clear hF; intro a hF
  refine l_at hF rfl rfl rfl (x_assign (hF.tmp 36 rfl)) ?_; clear hF; intro a hF
  refine l_at hF rfl rfl rfl (x_assign (hF.tmp 37 rfl)) ?_; clear hF; intro a hF
  refine wpList_nil ?_
  refine hK12 _ _ ?_
  refine wp_seq_k fun khK13 hK13 => ?_
  refine wp_region_lit ?_
  refine l_at hF rfl rfl rfl (x_move (hF.tmp 2 rfl)) ?_; clear hF; intro a hF
  refine l_at hF rfl rfl rfl (x_eql (hF.tmp 38 rfl) rfl) ?_; clear hF; intro a hF
  rw [decide_eq_true (rfl)] at hF
  refine l_at hF rfl rfl rfl (x_move (hF.tmp 39 rfl)) ?_; clear hF; intro a hF
  refine l_atg hF ((wanted_of hF rfl rfl rfl rfl).trans rfl) rfl rfl (x_move (hF.tmp 3 rfl)) ?_; clear hF; intro a hF
  refine l_atg hF ((wanted_of hF rfl rfl rfl rfl).trans rfl) rfl rfl (x_eql (hF.tmp 41 rfl) rfl) ?_; clear hF; intro a hF
  rw [decide_eq_true (rfl)] at hF
  refine l_at hF rfl rfl rfl (x_pickT (hF.tmp 40 rfl) rfl (hF.tmp 42 rfl)) ?_; clear hF; intro a hF
  refine l_at hF rfl rfl rfl (x_move (hF.tmp 43 rfl)) ?_; clear hF; intro a hF
  refine l_atg hF ((wanted_of hF rfl rfl rfl rfl).trans rfl) rfl rfl (x_move (hF.tmp 4 rfl)) ?_; clear hF; intro a hF
  refine l_atg hF ((wanted_of hF rfl rfl rfl rfl).trans rfl) rfl rfl (x_eql (hF.tmp 45 rfl) rfl) ?_; clear hF; intro a hF
  rw [decide_eq_true (rfl)] at hF
  refine l_at hF rfl rfl rfl (x_pickT (hF.tmp 44 rfl) rfl (hF.tmp 46 rfl)) ?_; clear hF; intro a hF
  refine l_at hF rfl rfl rfl (x_move (hF.tmp 47 rfl)) ?_; clear hF; intro a hF
  refine l_atg hF ((wanted_of hF rfl rfl rfl rfl).trans rfl) rfl rfl (x_move (hF.tmp 6 rfl)) ?_; clear hF; intro a hF
  refine l_atg hF ((wanted_of hF rfl rfl rfl rfl).trans rfl) rfl rfl (x_eql (hF.tmp 49 rfl) rfl) ?_; clear hF; intro a hF
  rw [decide_eq_true (rfl)] at hF
  refine l_at hF rfl rfl rfl (x_pickT (hF.tmp 48 rfl) rfl (hF.tmp 50 rfl)) ?_; clear hF; intro a hF
  refine l_at hF rfl rfl rfl (x_move (hF.tmp 51 rfl)) ?_; clear hF; intro a hF
  refine l_atg hF ((wanted_of hF rfl rfl rfl rfl).trans rfl) rfl rfl (x_move (hF.tmp 9 rfl)) ?_; clear hF; intro a hF
  refine l_atg hF ((wanted_of hF rfl rfl rfl rfl).trans rfl) rfl rfl (x_eql (hF.tmp 53 rfl) rfl) ?_; clear hF; intro a hF
  rw [decide_eq_true (rfl)] at hF
  refine l_at hF rfl rfl rfl (x_pickT (hF.tmp 52 rfl) rfl (hF.tmp 54 rfl)) ?_; clear hF; intro a hF
  refine l_at hF rfl rfl rfl (x_move (hF.tmp 55 rfl)) ?_; clear hF; intro a hF
  refine l_atg hF ((wanted_of hF rfl rfl rfl rfl).trans rfl) rfl rfl (x_move (hF.tmp 5 rfl)) ?_; clear hF; intro a hF
  refine l_atg hF ((wanted_of hF rfl rfl rfl rfl).trans rfl) rfl rfl (x_b2s Try.underlying42 Try.underlying5 Try.underlying9 (Row.rd (ok' := fun k_ => (fun _ => False) k_ ∨ (.slice Ar25 ([97, 98, 99, 100] : List Int).length cr25 : Value).ownBlock = some k_) (hH.row 25 rfl) (fun _ hk_ _ => .inl hk_) (fun _ hk_ => .inr hk_)) (hF.tmp 57 rfl)) ?_; clear hF; intro a hF
  refine l_atg hF ((wanted_of hF rfl rfl rfl rfl).trans rfl) rfl rfl (x_eqs (q := strOfNums ([97, 98, 99, 100] : List Int)) (hF.tmp 58 rfl) (show _ = Value.string (strOfNums ([97, 98, 99, 100] : List Int)) by kernel_rfl)) ?_; clear hF; intro a hF
  rw [decide_eq_true rfl] at hF
  refine l_at hF rfl rfl rfl (x_pickT (hF.tmp 56 rfl) rfl (hF.tmp 59 rfl)) ?_; clear hF; intro a hF
  refine l_at hF rfl rfl rfl (x_move (hF.tmp 60 rfl)) ?_; clear hF; intro a hF
  refine l_atg hF ((wanted_of hF rfl rfl rfl rfl).trans rfl) rfl rfl (x_move (hF.tmp 8 rfl)) ?_; clear hF; intro a hF
  refine l_atg hF ((wanted_of hF rfl rfl rfl rfl).trans rfl) rfl rfl (x_b2s Try.underlying42 Try.underlying5 Try.underlying9 (Row.rd (ok' := fun k_ => (fun _ => False) k_ ∨ (.slice Ar35 ([97, 98, 99] : List Int).length cr35 : Value).ownBlock = some k_) (hH.row 35 rfl) (fun _ hk_ _ => .inl hk_) (fun _ hk_ => .inr hk_)) (hF.tmp 62 rfl)) ?_; clear hF; intro a hF
  refine l_atg hF ((wanted_of hF rfl rfl rfl rfl).trans rfl) rfl rfl (x_eqs (q := strOfNums ([97, 98, 99] : List Int)) (hF.tmp 63 rfl) (show _ = Value.string (strOfNums ([97, 98, 99] : List Int)) by kernel_rfl)) ?_; clear hF; intro a hF
  rw [decide_eq_true rfl] at hF
  refine l_at hF rfl rfl rfl (x_pickT (hF.tmp 61 rfl) rfl (hF.tmp 64 rfl)) ?_; clear hF; intro a hF
  refine l_at hF rfl rfl rfl (x_move (hF.tmp 65 rfl)) ?_; clear hF; intro a hF
  refine l_atg hF ((wanted_of hF rfl rfl rfl rfl).trans rfl) rfl rfl (x_move (hF.tmp 1 rfl)) ?_; clear hF; intro a hF
  refine wpList_on ((wanted_of hF rfl rfl rfl rfl).trans rfl) fun K hK => ?_
  refine w_call hF (x_enter Try.func26 (by kernel_rfl) rfl (by simp only [List.map_toArray, List.map_cons, List.map_nil, hF.tmp 67 rfl] <;> rfl)) (safe_calls _ hD1_3 (it_ok hH 70 rfl) 4) rfl rfl ?_
  rintro _ w ⟨rfl, hm_⟩; refine ⟨_, rfl, ?_⟩; clear hF; intro a hF; have hH := hH.same hm_
  refine hK _ _ ?_; clear hK K
  rw [show (getM ([(4, ([97, 98, 99, 100], 2))] : DM) 4).2 = 2 by decide +kernel] at hF
  refine l_atg hF ((wanted_of hF rfl rfl rfl rfl).trans rfl) rfl rfl (x_eql (hF.tmp 68 rfl) rfl) ?_; clear hF; intro a hF
  rw [decide_eq_true (rfl)] at hF
  refine l_at hF rfl rfl rfl (x_pickT (hF.tmp 66 rfl) rfl (hF.tmp 69 rfl)) ?_; clear hF; intro a hF
  refine l_at hF rfl rfl rfl (x_assign (hF.tmp 70 rfl)) ?_; clear hF; intro a hF
  refine wpList_nil ?_
  refine hK13 _ _ ?_
  refine wp_ret ?_
  try simp only [Exit.then, Exit.inBlock]
  exact fin_ret hF (res1 hF rfl rfl) ⟨rfl, hH.mods⟩

set_option maxRecDepth 100000 in
set_option maxHeartbeats 1000000 in
theorem pieces_calls (w0 : World) (n at_ : Int) (hat0 : -9223372036854775808 ≤ at_) (hat1 : at_ < 9223372036854775808) {ok : Nat → Prop} {Al : Option Addr} {l : List (List Int)} {cl : Nat} (hrl : Rd BB w0 ok Al l cl) : Calls Try.prog 4 #[.int .i64 n, .slice Al l.length cl, .int .i64 at_] w0 fun e w' => e = .returned (.bool true) ∧ Mods (fun _ => False) w0 w' := by
  refine calls_of_wp Try.func4 rfl ?_
  have hF := Fr.enter #[.int .i64 n, .slice Al l.length cl, .int .i64 at_] 135 (slotsOf [.int .i64 n, .slice Al l.length cl, .int .i64 at_] 0) (Nat.le_of_ble_eq_true rfl) (fun i v h => by have h2 := (get_slotsOf _ 0 i v h).2; simpa only [List.getElem?_toArray, Nat.sub_zero] using h2)
  have hH := Hp.nil (fun _ => False) w0
  rw [Try.ntmps4]
  revert hF; generalize (⟨(#[.int .i64 n, .slice Al l.length cl, .int .i64 at_] : Array Value) ++ Array.replicate (135 - (#[.int .i64 n, .slice Al l.length cl, .int .i64 at_] : Array Value).size) undef, []⟩ : Act) = a; intro hF
  have hH := hH.arg 901 hrl.all (fun _ h => ⟨h, fun h => h⟩)
  have hlel := hrl.le; unfold maxLen at hlel
  refine wp_seq_k fun khK1 hK1 => ?_
  refine wp_region_lit ?_
  refine l_at hF rfl rfl rfl (x_assign rfl) ?_; clear hF; intro a hF
  refine wpList_nil ?_
  refine hK1 _ _ ?_
  refine wp_seq_k fun khK2 hK2 => ?_
  refine wp_region_lit ?_
  refine wpList_plain rfl fun K hK => ?_
  refine w_call hF (x_enter Try.func20 (by kernel_rfl) rfl (by simp only [List.map_toArray, List.map_cons, List.map_nil] <;> rfl)) (new_calls _) rfl rfl ?_
  rintro _ w ⟨bd1, X1, rfl, hD1, hok_, hm_, hn_, hr_⟩; refine ⟨_, rfl, ?_⟩; clear hF; intro a hF; have hH := hH.newX 70 hm_ hok_ hn_ (fun k h => (hr_ k h).elim)
  refine hK _ _ ?_; clear hK K
  refine l_at hF rfl rfl rfl (x_assign (hF.tmp 17 rfl)) ?_; clear hF; intro a hF
  refine wpList_nil ?_
  refine hK2 _ _ ?_
  refine wp_seq_k fun khK3 hK3 => ?_
  refine wp_seq_k fun khK4 hK4 => ?_
  refine wp_region_lit ?_
  refine l_at hF rfl rfl rfl (x_move (hF.tmp 7 rfl)) ?_; clear hF; intro a hF
  refine l_at hF rfl rfl rfl (x_ptrnil Try.underlying40 (hF.tmp 18 rfl) rfl) ?_; clear hF; intro a hF
  refine l_at hF rfl rfl rfl (x_move (hF.tmp 19 rfl)) ?_; clear hF; intro a hF
  refine l_atg hF ((wanted_of hF rfl rfl rfl rfl).trans rfl) rfl rfl (x_move (hF.tmp 0 rfl)) ?_; clear hF; intro a hF
  refine l_atg hF ((wanted_of hF rfl rfl rfl rfl).trans rfl) rfl rfl (x_lss (hF.tmp 21 rfl) rfl) ?_; clear hF; intro a hF
  refine l_at hF rfl rfl rfl (x_pickF (hF.tmp 20 rfl) rfl (hF.tmp 22 rfl)) ?_; clear hF; intro a hF
  refine l_at hF rfl rfl rfl (x_move (hF.tmp 23 rfl)) ?_; clear hF; intro a hF
  refine split_bool hF 24 rfl (fun hb24 => ?_) (fun hb24 => ?_)
  · have hc24 := hb24; try simp only [Bool.or_eq_true, Bool.and_eq_true, Bool.or_eq_false_iff, Bool.and_eq_false_iff, Bool.not_eq_true', Bool.not_eq_false', decide_eq_true_eq, decide_eq_false_iff_not, Bool.not_true, Bool.not_false] at hc24
    refine l_offg hF ((wanted_of hF rfl rfl rfl rfl).trans (by rw [hb24]; rfl)) rfl rfl ?_; clear hF; intro a hF
    refine l_offg hF ((wanted_of hF rfl rfl rfl rfl).trans (by rw [hb24]; rfl)) rfl rfl ?_; clear hF; intro a hF
    refine l_offg hF ((wanted_of hF rfl rfl rfl rfl).trans (by rw [hb24]; rfl)) rfl rfl ?_; clear hF; intro a hF
    refine l_at hF rfl rfl rfl (x_pickT (hF.tmp 24 rfl) hb24 rfl) ?_; clear hF; intro a hF
    refine wpList_nil ?_
    refine hK4 _ _ ?_
    refine wp_cond_true (hF.tmp 28 rfl) ?_
    refine wp_seq_k fun khK5 hK5 => ?_
    refine wp_region_lit ?_
    refine l_at hF rfl rfl rfl (x_move (hF.tmp 7 rfl)) ?_; clear hF; intro a hF
    refine l_at hF rfl rfl rfl (x_ptrne Try.underlying40 (hF.tmp 29 rfl) rfl) ?_; clear hF; intro a hF
    refine l_at hF rfl rfl rfl (x_assign (hF.tmp 30 rfl)) ?_; clear hF; intro a hF
    refine wpList_nil ?_
    refine hK5 _ _ ?_
    refine wp_ret ?_
    try simp only [Exit.then, Exit.inBlock]
    exact fin_ret hF (res1 hF rfl rfl) ⟨rfl, hH.mods⟩
  · have hc24 := hb24; try simp only [Bool.or_eq_true, Bool.and_eq_true, Bool.or_eq_false_iff, Bool.and_eq_false_iff, Bool.not_eq_true', Bool.not_eq_false', decide_eq_true_eq, decide_eq_false_iff_not, Bool.not_true, Bool.not_false] at hc24
    refine l_atg hF ((wanted_of hF rfl rfl rfl rfl).trans (by rw [hb24]; rfl)) rfl rfl (x_move (hF.tmp 1 rfl)) ?_; clear hF; intro a hF
    refine l_atg hF ((wanted_of hF rfl rfl rfl rfl).trans (by rw [hb24]; rfl)) rfl rfl (x_len_slice Try.underlying39 (hF.tmp 25 rfl)) ?_; clear hF; intro a hF
    refine l_atg hF ((wanted_of hF rfl rfl rfl rfl).trans (by rw [hb24]; rfl)) rfl rfl (x_gtr (hF.tmp 26 rfl) rfl) ?_; clear hF; intro a hF
    refine l_at hF rfl rfl rfl (x_pickF (hF.tmp 24 rfl) hb24 (hF.tmp 27 rfl)) ?_; clear hF; intro a hF
    refine wpList_nil ?_
    refine hK4 _ _ ?_
    refine wp_cond_split (hF.tmp 28 rfl) (fun hc28 => ?_) (fun hc28 => ?_)
    · try simp only [Bool.or_eq_true, Bool.and_eq_true, Bool.or_eq_false_iff, Bool.and_eq_false_iff, Bool.not_eq_true', Bool.not_eq_false', decide_eq_true_eq, decide_eq_false_iff_not, Bool.not_true, Bool.not_false] at hc28
      refine wp_seq_k fun khK6 hK6 => ?_
      refine wp_region_lit ?_
      refine l_at hF rfl rfl rfl (x_move (hF.tmp 7 rfl)) ?_; clear hF; intro a hF
      refine l_at hF rfl rfl rfl (x_ptrne Try.underlying40 (hF.tmp 29 rfl) rfl) ?_; clear hF; intro a hF
      refine l_at hF rfl rfl rfl (x_assign (hF.tmp 30 rfl)) ?_; clear hF; intro a hF
      refine wpList_nil ?_
      refine hK6 _ _ ?_
      refine wp_ret ?_
      try simp only [Exit.then, Exit.inBlock]
      exact fin_ret hF (res1 hF rfl rfl) ⟨rfl, hH.mods⟩
    · try simp only [Bool.or_eq_true, Bool.and_eq_true, Bool.or_eq_false_iff, Bool.and_eq_false_iff, Bool.not_eq_true', Bool.not_eq_false', decide_eq_true_eq, decide_eq_false_iff_not, Bool.not_true, Bool.not_false] at hc28
      have hn : ¬ n < 0 := by omega
      have hcl := cat_le l
      refine wp_skip ?_
      refine hK3 _ _ ?_
      refine wp_seq_k fun khK7 hK7 => ?_
      refine wp_region_lit ?_
      refine l_at hF rfl rfl rfl (x_assign (show _ = Value.string (strOfNums ([] : List Int)) by kernel_rfl)) ?_; clear hF; intro a hF
      refine wpList_nil ?_
      refine hK7 _ _ ?_
      refine wp_seq_k fun khK8 hK8 => ?_
      refine wp_seq_k fun khK9 hK9 => ?_
      refine wp_region_lit ?_
      refine l_at hF rfl rfl rfl (x_assign rfl) ?_; clear hF; intro a hF
      refine wpList_nil ?_
      refine hK9 _ _ ?_
      refine wp_block ?_
      refine wp_loop_ghost (fun n_ a w => ∃ k : Nat, ∃ X_ : Asn, n_ = l.length - k ∧ (k ≤ l.length) ∧ (DiskA 106 bd1 (pm n l k) [] X_) ∧ Fr 135 a [(0, .int .i64 n), (1, .slice Al l.length cl), (2, .int .i64 at_), (7, .pointer (some ⟨bd1, 0, none⟩)), (8, .string (strOfNums (cat l k))), (9, .int .i64 (k : Int))] ∧ Hp (fun _ => False) w0 w [(901, .rd_ BB Al l cl (fun k => k < w0.heap.size)), (70, X_)]) (l.length) ?_ ?_
      · exact ⟨0, X1, rfl, by omega, hD1, ((((((hF.bare.add hF 9 rfl).add hF 8 rfl).add hF 7 rfl).add hF 2 rfl).add hF 1 rfl).add hF 0 rfl), hH.sub _ (sub_cons (sub_cons (sub_nil _) 70 rfl) 901 rfl)⟩
      · rintro _ a w ⟨k, X_, rfl, hq0_0, hq0_1, hF, hH⟩
        have hck := hcl k
        refine wp_seq_k fun khK10 hK10 => ?_
        refine wp_seq_k fun khK11 hK11 => ?_
        refine wp_region_lit ?_
        refine l_at hF rfl rfl rfl (x_move (hF.tmp 9 rfl)) ?_; clear hF; intro a hF
        refine l_at hF rfl rfl rfl (x_move (hF.tmp 1 rfl)) ?_; clear hF; intro a hF
        refine l_at hF rfl rfl rfl (x_len_slice Try.underlying39 (hF.tmp 32 rfl)) ?_; clear hF; intro a hF
        refine l_at hF rfl rfl rfl (x_lss (hF.tmp 31 rfl) (hF.tmp 33 rfl)) ?_; clear hF; intro a hF
        refine wpList_nil ?_
        refine hK11 _ _ ?_
        refine wp_cond_split (hF.tmp 34 rfl) (fun hc34 => ?_) (fun hc34 => ?_)
        · try simp only [Bool.or_eq_true, Bool.and_eq_true, Bool.or_eq_false_iff, Bool.and_eq_false_iff, Bool.not_eq_true', Bool.not_eq_false', decide_eq_true_eq, decide_eq_false_iff_not, Bool.not_true, Bool.not_false] at hc34
          refine wp_skip ?_
          refine hK10 _ _ ?_
          refine wp_seq_k fun khK12 hK12 => ?_
          refine wp_block ?_
          refine wp_seq_k fun khK13 hK13 => ?_
          refine wp_seq_k fun khK14 hK14 => ?_
          refine wp_region_lit ?_
          obtain ⟨fA1, fc1, hfr1, hf1_0, hfw1⟩ := Rd.bb ((hH.rd 901 rfl)) (gb_some (xs := l) (i := (k : Int)) (by omega) (by omega))
          have hH := hH.subrd 901 rfl 1000 hfr1 (fun _ h => h)
          have hH := hH.subcel 901 rfl 1500 hf1_0 (Rd.inok ((hH.rd 901 rfl)) (by omega) _)
          refine l_at hF rfl rfl rfl (x_move (hF.tmp 1 rfl)) ?_; clear hF; intro a hF
          refine l_at hF rfl rfl rfl (x_move (hF.tmp 9 rfl)) ?_; clear hF; intro a hF
          refine l_at hF rfl rfl rfl (x_iaddr_A Try.underlying39 ty42 ((hH.rd 901 rfl)) (hF.tmp 37 rfl) (hF.tmp 38 rfl) (by omega) (by omega) _) ?_; clear hF; intro a hF
          refine l_at hF rfl rfl rfl (x_load1 ty42 (hF.tmp 39 rfl) (hH.holds 1500 _ rfl)) ?_; clear hF; intro a hF
          refine l_at hF rfl rfl rfl (x_len_slice Try.underlying42 (hF.tmp 40 rfl)) ?_; clear hF; intro a hF
          refine l_at hF rfl rfl rfl (x_gtr (hF.tmp 41 rfl) rfl) ?_; clear hF; intro a hF
          refine wpList_nil ?_
          refine hK14 _ _ ?_
          refine wp_cond_split (hF.tmp 42 rfl) (fun hc42 => ?_) (fun hc42 => ?_)
          · try simp only [Bool.or_eq_true, Bool.and_eq_true, Bool.or_eq_false_iff, Bool.and_eq_false_iff, Bool.not_eq_true', Bool.not_eq_false', decide_eq_true_eq, decide_eq_false_iff_not, Bool.not_true, Bool.not_false] at hc42
            refine wp_seq_k fun khK15 hK15 => ?_
            refine wp_region_lit ?_
            refine wpList_plain rfl fun K hK => ?_
            refine w_call hF (x_enter Try.func21 (by kernel_rfl) rfl (by simp only [List.map_toArray, List.map_cons, List.map_nil] <;> rfl)) (alive_calls _) rfl rfl ?_
            rintro _ w ⟨rfl, hm_⟩; refine ⟨_, rfl, ?_⟩; clear hF; intro a hF; have hH := hH.same hm_
            refine hK _ _ ?_; clear hK K
            refine l_at hF rfl rfl rfl (x_assign (hF.tmp 43 rfl)) ?_; clear hF; intro a hF
            refine wpList_nil ?_
            refine hK15 _ _ ?_
            refine wp_ret ?_
            try simp only [Exit.then, Exit.inBlock]
            exact fin_ret hF (res1 hF rfl rfl) ⟨rfl, hH.mods⟩
          · try simp only [Bool.or_eq_true, Bool.and_eq_true, Bool.or_eq_false_iff, Bool.and_eq_false_iff, Bool.not_eq_true', Bool.not_eq_false', decide_eq_true_eq, decide_eq_false_iff_not, Bool.not_true, Bool.not_false] at hc42
            refine wp_skip ?_
            refine hK13 _ _ ?_
            refine wp_seq_k fun khK16 hK16 => ?_
            refine wp_region_lit ?_
            refine l_at hF rfl rfl rfl (x_move (hF.tmp 7 rfl)) ?_; clear hF; intro a hF
            refine l_at hF rfl rfl rfl (x_move (hF.tmp 0 rfl)) ?_; clear hF; intro a hF
            refine l_at hF rfl rfl rfl (x_move (hF.tmp 1 rfl)) ?_; clear hF; intro a hF
            refine l_at hF rfl rfl rfl (x_move (hF.tmp 9 rfl)) ?_; clear hF; intro a hF
            refine l_at hF rfl rfl rfl (x_iaddr_A Try.underlying39 ty42 ((hH.rd 901 rfl)) (hF.tmp 46 rfl) (hF.tmp 47 rfl) (by omega) (by omega) _) ?_; clear hF; intro a hF
            refine l_at hF rfl rfl rfl (x_load1 ty42 (hF.tmp 48 rfl) (hH.holds 1500 _ rfl)) ?_; clear hF; intro a hF
            refine wpList_plain rfl fun K hK => ?_
            refine w_call hF (x_enter Try.func22 (by kernel_rfl) rfl (by simp only [List.map_toArray, List.map_cons, List.map_nil, hF.tmp 44 rfl, hF.tmp 45 rfl, hF.tmp 49 rfl] <;> rfl)) (app_calls _ hq0_1 (it_ok hH 70 rfl) n ((hH.rd 1000 rfl)) (fun k hk => hH.inb 1000 _ rfl k (.inr hk)) (fun k hk h => hH.sep 70 1000 _ _ (by decide) rfl rfl k h (.inr hk))) rfl rfl ?_
            rintro _ w ⟨X1_1, rfl, hD1_1, hG_⟩; refine ⟨_, rfl, ?_⟩; clear hF; intro a hF; have hH := hH.grew 70 rfl hG_ (fun k h => h.elim)
            refine hK _ _ ?_; clear hK K
            rw [pm_step hn (by omega)] at hD1_1
            rw [pm_err hn] at hF
            refine l_at hF rfl rfl rfl (x_assign (hF.tmp 50 rfl)) ?_; clear hF; intro a hF
            refine wpList_nil ?_
            refine hK16 _ _ ?_
            refine wp_seq_k fun khK17 hK17 => ?_
            refine wp_seq_k fun khK18 hK18 => ?_
            refine wp_region_lit ?_
            refine l_at hF rfl rfl rfl (x_move (hF.tmp 10 rfl)) ?_; clear hF; intro a hF
            refine l_at hF rfl rfl rfl (x_eql (hF.tmp 51 rfl) rfl) ?_; clear hF; intro a hF
            refine l_at hF rfl rfl rfl (x_move (hF.tmp 8 rfl)) ?_; clear hF; intro a hF
            refine l_at hF rfl rfl rfl (x_len_sn (xs := (cat l k)) Try.underlying9 (hF.tmp 53 rfl)) ?_; clear hF; intro a hF
            refine l_at hF rfl rfl rfl (x_move (hF.tmp 1 rfl)) ?_; clear hF; intro a hF
            refine l_at hF rfl rfl rfl (x_move (hF.tmp 9 rfl)) ?_; clear hF; intro a hF
            refine l_at hF rfl rfl rfl (x_iaddr_A Try.underlying39 ty42 ((hH.rd 901 rfl)) (hF.tmp 55 rfl) (hF.tmp 56 rfl) (by omega) (by omega) _) ?_; clear hF; intro a hF
            refine l_at hF rfl rfl rfl (x_load1 ty42 (hF.tmp 57 rfl) (hH.holds 1500 _ rfl)) ?_; clear hF; intro a hF
            refine l_at hF rfl rfl rfl (x_len_slice Try.underlying42 (hF.tmp 58 rfl)) ?_; clear hF; intro a hF
            refine l_at hF rfl rfl rfl (x_add (hF.tmp 54 rfl) (hF.tmp 59 rfl) (w64 (by omega) (by omega))) ?_; clear hF; intro a hF
            refine l_at hF rfl rfl rfl (x_leq (hF.tmp 60 rfl) rfl) ?_; clear hF; intro a hF
            refine l_at hF rfl rfl rfl (x_neb (hF.tmp 52 rfl) (hF.tmp 61 rfl) Try.underlying4) ?_; clear hF; intro a hF
            rw [pieces_ne] at hF
            refine wpList_nil ?_
            refine hK18 _ _ ?_
            refine wp_cond_false (hF.tmp 62 rfl) ?_
            refine wp_skip ?_
            refine hK17 _ _ ?_
            refine wp_seq_k fun khK19 hK19 => ?_
            refine wp_region_lit ?_
            refine l_at hF rfl rfl rfl (x_move (hF.tmp 10 rfl)) ?_; clear hF; intro a hF
            refine l_at hF rfl rfl rfl (x_eql (hF.tmp 63 rfl) rfl) ?_; clear hF; intro a hF
            refine wpList_nil ?_
            refine hK19 _ _ ?_
            refine wp_cond_split (hF.tmp 64 rfl) (fun hc64 => ?_) (fun hc64 => ?_)
            · try simp only [Bool.or_eq_true, Bool.and_eq_true, Bool.or_eq_false_iff, Bool.and_eq_false_iff, Bool.not_eq_true', Bool.not_eq_false', decide_eq_true_eq, decide_eq_false_iff_not, Bool.not_true, Bool.not_false] at hc64
              have hjz := pieces_yes hc64
              refine wp_region_lit ?_
              refine l_at hF rfl rfl rfl (x_move (hF.tmp 8 rfl)) ?_; clear hF; intro a hF
              refine l_at hF rfl rfl rfl (x_move (hF.tmp 1 rfl)) ?_; clear hF; intro a hF
              refine l_at hF rfl rfl rfl (x_move (hF.tmp 9 rfl)) ?_; clear hF; intro a hF
              refine l_at hF rfl rfl rfl (x_iaddr_A Try.underlying39 ty42 ((hH.rd 901 rfl)) (hF.tmp 66 rfl) (hF.tmp 67 rfl) (by omega) (by omega) _) ?_; clear hF; intro a hF
              refine l_at hF rfl rfl rfl (x_load1 ty42 (hF.tmp 68 rfl) (hH.holds 1500 _ rfl)) ?_; clear hF; intro a hF
              refine l_at hF rfl rfl rfl (x_b2s Try.underlying42 Try.underlying5 Try.underlying9 ((hH.rd 1000 rfl)) (hF.tmp 69 rfl)) ?_; clear hF; intro a hF
              refine l_at hF rfl rfl rfl (x_adds (xs := (cat l k)) (ys := (gb l (k : Int))) (hF.tmp 65 rfl) (hF.tmp 70 rfl) (by omega)) ?_; clear hF; intro a hF
              refine l_at hF rfl rfl rfl (x_assign (hF.tmp 71 rfl)) ?_; clear hF; intro a hF
              rw [cat_yes hjz] at hF
              refine wpList_nil ?_
              refine hK12 _ _ ?_
              refine wp_region_lit ?_
              refine l_at hF rfl rfl rfl (x_move (hF.tmp 9 rfl)) ?_; clear hF; intro a hF
              refine l_at hF rfl rfl rfl (x_add (hF.tmp 35 rfl) rfl (w64 (by omega) (by omega))) ?_; clear hF; intro a hF
              refine l_at hF rfl rfl rfl (x_assign (hF.tmp 36 rfl)) ?_; clear hF; intro a hF
              refine wpList_nil ?_
              exact ⟨_, by omega, ⟨k + 1, X1_1, rfl, by omega, hD1_1, ((((((hF.bare.add hF 9 rfl).add hF 8 rfl).add hF 7 rfl).add hF 2 rfl).add hF 1 rfl).add hF 0 rfl), hH.sub _ (sub_cons (sub_cons (sub_nil _) 70 rfl) 901 rfl)⟩⟩
            · try simp only [Bool.or_eq_true, Bool.and_eq_true, Bool.or_eq_false_iff, Bool.and_eq_false_iff, Bool.not_eq_true', Bool.not_eq_false', decide_eq_true_eq, decide_eq_false_iff_not, Bool.not_true, Bool.not_false] at hc64
              have hjz := pieces_no hc64
              rw [cat_no hjz] at hF
              refine wp_skip ?_
              refine hK12 _ _ ?_
              refine wp_region_lit ?_
              refine l_at hF rfl rfl rfl (x_move (hF.tmp 9 rfl)) ?_; clear hF; intro a hF
              refine l_at hF rfl rfl rfl (x_add (hF.tmp 35 rfl) rfl (w64 (by omega) (by omega))) ?_; clear hF; intro a hF
              refine l_at hF rfl rfl rfl (x_assign (hF.tmp 36 rfl)) ?_; clear hF; intro a hF
              refine wpList_nil ?_
              exact ⟨_, by omega, ⟨k + 1, X1_1, rfl, by omega, hD1_1, ((((((hF.bare.add hF 9 rfl).add hF 8 rfl).add hF 7 rfl).add hF 2 rfl).add hF 1 rfl).add hF 0 rfl), hH.sub _ (sub_cons (sub_cons (sub_nil _) 70 rfl) 901 rfl)⟩⟩
        · try simp only [Bool.or_eq_true, Bool.and_eq_true, Bool.or_eq_false_iff, Bool.and_eq_false_iff, Bool.not_eq_true', Bool.not_eq_false', decide_eq_true_eq, decide_eq_false_iff_not, Bool.not_true, Bool.not_false] at hc34
          obtain rfl : k = l.length := by omega
          refine wp_exit ?_
          refine hK8 _ _ ?_
          refine wp_seq_k fun khK20 hK20 => ?_
          refine wp_region_lit ?_
          refine l_at hF rfl rfl rfl (x_move (hF.tmp 7 rfl)) ?_; clear hF; intro a hF
          refine l_at hF rfl rfl rfl (x_move (hF.tmp 0 rfl)) ?_; clear hF; intro a hF
          refine wpList_plain rfl fun K hK => ?_
          refine w_call hF (x_enter Try.func23 (by kernel_rfl) rfl (by simp only [List.map_toArray, List.map_cons, List.map_nil, hF.tmp 73 rfl, hF.tmp 74 rfl] <;> rfl)) (read_calls _ hq0_1 (it_ok hH 70 rfl) n (pm_small _ _ _)) rfl rfl ?_
          rintro _ w ⟨vr75, rfl, hm_, hr_⟩; refine ⟨_, rfl, ?_⟩; clear hF; intro a hF; have hH := Hp.rowOut hH 75 hm_ hr_; obtain ⟨Ar75, cr75, rfl⟩ := (hH.row 75 rfl).form
          refine hK _ _ ?_; clear hK K
          rw [pm_get] at hF
          rw [pm_get] at hH
          refine l_at hF rfl rfl rfl (x_move (hF.tmp 75 rfl)) ?_; clear hF; intro a hF
          refine l_at hF rfl rfl rfl (x_extract (hF.tmp 72 rfl) rfl) ?_; clear hF; intro a hF
          refine l_at hF rfl rfl rfl (x_extract (hF.tmp 72 rfl) rfl) ?_; clear hF; intro a hF
          refine l_at hF rfl rfl rfl (x_assign (hF.tmp 76 rfl)) ?_; clear hF; intro a hF
          refine l_at hF rfl rfl rfl (x_assign (hF.tmp 77 rfl)) ?_; clear hF; intro a hF
          refine wpList_nil ?_
          refine hK20 _ _ ?_
          refine wp_seq_k fun khK21 hK21 => ?_
          refine wp_seq_k fun khK22 hK22 => ?_
          refine wp_region_lit ?_
          refine l_at hF rfl rfl rfl (x_move (hF.tmp 1 rfl)) ?_; clear hF; intro a hF
          refine l_at hF rfl rfl rfl (x_len_slice Try.underlying39 (hF.tmp 78 rfl)) ?_; clear hF; intro a hF
          refine l_at hF rfl rfl rfl (x_eql (hF.tmp 79 rfl) rfl) ?_; clear hF; intro a hF
          refine wpList_nil ?_
          refine hK22 _ _ ?_
          refine wp_cond_split (hF.tmp 80 rfl) (fun hc80 => ?_) (fun hc80 => ?_)
          · try simp only [Bool.or_eq_true, Bool.and_eq_true, Bool.or_eq_false_iff, Bool.and_eq_false_iff, Bool.not_eq_true', Bool.not_eq_false', decide_eq_true_eq, decide_eq_false_iff_not, Bool.not_true, Bool.not_false] at hc80
            have h00 : l.length = 0 := by omega
            have hat31 : atE (pm n l l.length) n = 31 := by rw [h00]; exact pm_at0 n l
            refine wp_seq_k fun khK23 hK23 => ?_
            refine wp_region_lit ?_
            refine wpList_plain rfl fun K hK => ?_
            refine w_call hF (x_enter Try.func21 (by kernel_rfl) rfl (by simp only [List.map_toArray, List.map_cons, List.map_nil] <;> rfl)) (alive_calls _) rfl rfl ?_
            rintro _ w ⟨rfl, hm_⟩; refine ⟨_, rfl, ?_⟩; clear hF; intro a hF; have hH := hH.same hm_
            refine hK _ _ ?_; clear hK K
            refine l_at hF rfl rfl rfl (x_move (hF.tmp 81 rfl)) ?_; clear hF; intro a hF
            refine l_atg hF ((wanted_of hF rfl rfl rfl rfl).trans rfl) rfl rfl (x_move (hF.tmp 12 rfl)) ?_; clear hF; intro a hF
            refine l_atg hF ((wanted_of hF rfl rfl rfl rfl).trans rfl) rfl rfl (x_eql (hF.tmp 83 rfl) rfl) ?_; clear hF; intro a hF
            rw [decide_eq_true hat31] at hF
            refine l_at hF rfl rfl rfl (x_pickT (hF.tmp 82 rfl) rfl (hF.tmp 84 rfl)) ?_; clear hF; intro a hF
            refine l_at hF rfl rfl rfl (x_assign (hF.tmp 85 rfl)) ?_; clear hF; intro a hF
            refine wpList_nil ?_
            refine hK23 _ _ ?_
            refine wp_ret ?_
            try simp only [Exit.then, Exit.inBlock]
            exact fin_ret hF (res1 hF rfl rfl) ⟨rfl, hH.mods⟩
          · try simp only [Bool.or_eq_true, Bool.and_eq_true, Bool.or_eq_false_iff, Bool.and_eq_false_iff, Bool.not_eq_true', Bool.not_eq_false', decide_eq_true_eq, decide_eq_false_iff_not, Bool.not_true, Bool.not_false] at hc80
            have hpos : 0 < l.length := by omega
            refine wp_skip ?_
            refine hK21 _ _ ?_
            refine wp_seq_k fun khK24 hK24 => ?_
            refine wp_region_lit ?_
            refine l_at hF rfl rfl rfl (x_move (hF.tmp 2 rfl)) ?_; clear hF; intro a hF
            refine l_at hF rfl rfl rfl (x_move (hF.tmp 8 rfl)) ?_; clear hF; intro a hF
            refine l_at hF rfl rfl rfl (x_len_sn (xs := (cat l l.length)) Try.underlying9 (hF.tmp 87 rfl)) ?_; clear hF; intro a hF
            refine l_at hF rfl rfl rfl (x_add (hF.tmp 88 rfl) rfl (w64 (by omega) (by omega))) ?_; clear hF; intro a hF
            refine wpList_plain rfl fun K hK => ?_
            refine w_call hF (x_enter Try.func24 (by kernel_rfl) rfl (by simp only [List.map_toArray, List.map_cons, List.map_nil, hF.tmp 86 rfl, hF.tmp 89 rfl] <;> rfl)) (pick_calls _ at_ (((cat l l.length).length : Int) + 1) hat0 hat1 (by omega)) rfl rfl ?_
            rintro _ w ⟨rfl, hm_⟩; refine ⟨_, rfl, ?_⟩; clear hF; intro a hF; have hH := hH.same hm_
            refine hK _ _ ?_; clear hK K
            refine l_at hF rfl rfl rfl (x_assign (hF.tmp 90 rfl)) ?_; clear hF; intro a hF
            refine wpList_nil ?_
            refine hK24 _ _ ?_
            refine wp_seq_k fun khK25 hK25 => ?_
            refine wp_region_lit ?_
            refine l_at hF rfl rfl rfl (x_move (hF.tmp 7 rfl)) ?_; clear hF; intro a hF
            refine l_at hF rfl rfl rfl (x_move (hF.tmp 0 rfl)) ?_; clear hF; intro a hF
            refine l_at hF rfl rfl rfl (x_move (hF.tmp 13 rfl)) ?_; clear hF; intro a hF
            refine wpList_plain rfl fun K hK => ?_
            refine w_call hF (x_enter Try.func25 (by kernel_rfl) rfl (by simp only [List.map_toArray, List.map_cons, List.map_nil, hF.tmp 91 rfl, hF.tmp 92 rfl, hF.tmp 93 rfl] <;> rfl)) (cut_calls _ hq0_1 (it_ok hH 70 rfl) n (rndI at_ (((cat l l.length).length : Int) + 1))) rfl rfl ?_
            rintro _ w ⟨X1_1, rfl, hD1_1, hG_⟩; refine ⟨_, rfl, ?_⟩; clear hF; intro a hF; have hH := hH.grew 70 rfl hG_ (fun k h => h.elim)
            refine hK _ _ ?_; clear hK K
            have hqr := rnd_range (c := at_) (n := ((cat l l.length).length : Int) + 1) (by omega)
            have hcut := pm_cut (n := n) (l := l) (K := l.length) (q := (rndI at_ (((cat l l.length).length : Int) + 1))) (by omega) hqr.1 (by omega)
            rw [hcut.1] at hD1_1
            rw [hcut.2] at hF
            refine l_at hF rfl rfl rfl (x_assign (hF.tmp 94 rfl)) ?_; clear hF; intro a hF
            refine wpList_nil ?_
            refine hK25 _ _ ?_
            refine wp_seq_k fun khK26 hK26 => ?_
            refine wp_region_lit ?_
            refine l_at hF rfl rfl rfl (x_move (hF.tmp 7 rfl)) ?_; clear hF; intro a hF
            refine l_at hF rfl rfl rfl (x_move (hF.tmp 0 rfl)) ?_; clear hF; intro a hF
            refine wpList_plain rfl fun K hK => ?_
            refine w_call hF (x_enter Try.func23 (by kernel_rfl) rfl (by simp only [List.map_toArray, List.map_cons, List.map_nil, hF.tmp 96 rfl, hF.tmp 97 rfl] <;> rfl)) (read_calls _ hD1_1 (it_ok hH 70 rfl) n (pm2_small _ _ _ _)) rfl rfl ?_
            rintro _ w ⟨vr98, rfl, hm_, hr_⟩; refine ⟨_, rfl, ?_⟩; clear hF; intro a hF; have hH := Hp.rowOut hH 98 hm_ hr_; obtain ⟨Ar98, cr98, rfl⟩ := (hH.row 98 rfl).form
            refine hK _ _ ?_; clear hK K
            rw [pm2_get] at hF
            rw [pm2_get] at hH
            rw [pm2_at] at hF
            refine l_at hF rfl rfl rfl (x_move (hF.tmp 98 rfl)) ?_; clear hF; intro a hF
            refine l_at hF rfl rfl rfl (x_extract (hF.tmp 95 rfl) rfl) ?_; clear hF; intro a hF
            refine l_at hF rfl rfl rfl (x_extract (hF.tmp 95 rfl) rfl) ?_; clear hF; intro a hF
            refine l_at hF rfl rfl rfl (x_assign (hF.tmp 99 rfl)) ?_; clear hF; intro a hF
            refine l_at hF rfl rfl rfl (x_assign (hF.tmp 100 rfl)) ?_; clear hF; intro a hF
            refine wpList_nil ?_
            refine hK26 _ _ ?_
            refine wp_seq_k fun khK27 hK27 => ?_
            refine r_start [(75, .row (.int .u8) 5 (.slice Ar75 (cat l l.length).length cr75) (cat l l.length) (fun _ => False)), (98, .row (.int .u8) 5 (.slice Ar98 ((cat l l.length).take (rndI at_ (((cat l l.length).length : Int) + 1)).toNat).length cr98) ((cat l l.length).take (rndI at_ (((cat l l.length).length : Int) + 1)).toNat) (fun _ => False))] (by kernel_rfl) hH fun hH => ?_
            have hS : SL [(75, .row (.int .u8) 5 (.slice Ar75 (cat l l.length).length cr75) (cat l l.length) (fun _ => False)), (98, .row (.int .u8) 5 (.slice Ar98 ((cat l l.length).take (rndI at_ (((cat l l.length).length : Int) + 1)).toNat).length cr98) ((cat l l.length).take (rndI at_ (((cat l l.length).length : Int) + 1)).toNat) (fun _ => False))] _ := SL.of hH (sub_cons (sub_cons (sub_nil _) 98 rfl) 75 rfl)
            refine r_do 0 rfl (by kernel_rfl) rfl rfl ?_
            refine w_call hF (x_enter Try.func21 (by kernel_rfl) rfl (by simp only [List.map_toArray, List.map_cons, List.map_nil] <;> rfl)) (alive_calls _) rfl rfl ?_
            rintro _ w ⟨rfl, hm_⟩; refine ⟨_, rfl, ?_⟩; clear hF; intro a hF; have hH := hH.same hm_
            clear hS; have hS : SL _ _ := SL.of hH (sub_cons (sub_cons (sub_nil _) 98 rfl) 75 rfl); refine ⟨hS, ?_⟩
            refine r_take 1 hF rfl rfl rfl (by kernel_rfl) (by kernel_rfl) (by kernel_rfl) (fun _ _ _ h => h) rfl hS (fun w hS => x_move (hF.tmp 101 rfl)) rfl ?_; clear hF; intro a hF
            refine r_take 2 hF rfl rfl rfl (by kernel_rfl) (by kernel_rfl) (by kernel_rfl) (fun _ _ _ h => h) ((wanted_of hF rfl rfl rfl rfl).trans rfl) hS (fun w hS => x_move (hF.tmp 12 rfl)) rfl ?_; clear hF; intro a hF
            refine r_take 3 hF rfl rfl rfl (by kernel_rfl) (by kernel_rfl) (by kernel_rfl) (fun _ _ _ h => h) ((wanted_of hF rfl rfl rfl rfl).trans rfl) hS (fun w hS => x_eql (hF.tmp 103 rfl) rfl) rfl ?_; clear hF; intro a hF
            rw [pm_at hpos, decide_eq_true rfl] at hF
            refine r_take 4 hF rfl rfl rfl (by kernel_rfl) (by kernel_rfl) (by kernel_rfl) (fun _ _ _ h => h) rfl hS (fun w hS => x_pickT (hF.tmp 102 rfl) rfl (hF.tmp 104 rfl)) rfl ?_; clear hF; intro a hF
            refine r_take 5 hF rfl rfl rfl (by kernel_rfl) (by kernel_rfl) (by kernel_rfl) (fun _ _ _ h => h) rfl hS (fun w hS => x_move (hF.tmp 105 rfl)) rfl ?_; clear hF; intro a hF
            refine r_take 6 hF rfl rfl rfl (by kernel_rfl) (by kernel_rfl) (by kernel_rfl) (fun _ _ _ h => h) ((wanted_of hF rfl rfl rfl rfl).trans rfl) hS (fun w hS => x_move (hF.tmp 14 rfl)) rfl ?_; clear hF; intro a hF
            refine r_take 7 hF rfl rfl rfl (by kernel_rfl) (by kernel_rfl) (by kernel_rfl) (fun _ _ _ h => h) ((wanted_of hF rfl rfl rfl rfl).trans rfl) hS (fun w hS => x_eql (hF.tmp 107 rfl) rfl) rfl ?_; clear hF; intro a hF
            rw [decide_eq_true (rfl)] at hF
            refine r_take 8 hF rfl rfl rfl (by kernel_rfl) (by kernel_rfl) (by kernel_rfl) (fun _ _ _ h => h) rfl hS (fun w hS => x_pickT (hF.tmp 106 rfl) rfl (hF.tmp 108 rfl)) rfl ?_; clear hF; intro a hF
            refine r_take 9 hF rfl rfl rfl (by kernel_rfl) (by kernel_rfl) (by kernel_rfl) (fun _ _ _ h => h) rfl hS (fun w hS => x_move (hF.tmp 109 rfl)) rfl ?_; clear hF; intro a hF
            refine r_take 10 hF rfl rfl rfl (by kernel_rfl) (by kernel_rfl) (by kernel_rfl) (fun _ _ _ h => h) ((wanted_of hF rfl rfl rfl rfl).trans rfl) hS (fun w hS => x_move (hF.tmp 16 rfl)) rfl ?_; clear hF; intro a hF
            refine r_take 11 hF rfl rfl rfl (by kernel_rfl) (by kernel_rfl) (by kernel_rfl) (fun _ _ _ h => h) ((wanted_of hF rfl rfl rfl rfl).trans rfl) hS (fun w hS => x_eql (hF.tmp 111 rfl) rfl) rfl ?_; clear hF; intro a hF
            rw [decide_eq_true (rfl)] at hF
            refine r_take 12 hF rfl rfl rfl (by kernel_rfl) (by kernel_rfl) (by kernel_rfl) (fun _ _ _ h => h) rfl hS (fun w hS => x_pickT (hF.tmp 110 rfl) rfl (hF.tmp 112 rfl)) rfl ?_; clear hF; intro a hF
            refine r_take 13 hF rfl rfl rfl (by kernel_rfl) (by kernel_rfl) (by kernel_rfl) (fun _ _ _ h => h) rfl hS (fun w hS => x_move (hF.tmp 113 rfl)) rfl ?_; clear hF; intro a hF
            refine r_take 14 hF rfl rfl rfl (by kernel_rfl) (by kernel_rfl) (by kernel_rfl) (fun _ _ _ h => h) ((wanted_of hF rfl rfl rfl rfl).trans rfl) hS (fun w hS => x_move (hF.tmp 11 rfl)) rfl ?_; clear hF; intro a hF
            refine r_take 15 hF rfl rfl rfl (by kernel_rfl) (by kernel_rfl) (by kernel_rfl) (fun _ _ _ h => h) ((wanted_of hF rfl rfl rfl rfl).trans rfl) hS (fun w hS => x_b2s Try.underlying42 Try.underlying5 Try.underlying9 (Row.rd (ok' := fun k_ => (fun _ => False) k_ ∨ (.slice Ar75 (cat l l.length).length cr75 : Value).ownBlock = some k_) (SL.row hS 75 rfl) (fun _ hk_ _ => .inl hk_) (fun _ hk_ => .inr hk_)) (hF.tmp 115 rfl)) rfl ?_; clear hF; intro a hF
            refine r_take 16 hF rfl rfl rfl (by kernel_rfl) (by kernel_rfl) (by kernel_rfl) (fun _ _ _ h => h) ((wanted_of hF rfl rfl rfl rfl).trans rfl) hS (fun w hS => x_move (hF.tmp 8 rfl)) rfl ?_; clear hF; intro a hF
            refine r_take 17 hF rfl rfl rfl (by kernel_rfl) (by kernel_rfl) (by kernel_rfl) (fun _ _ _ h => h) ((wanted_of hF rfl rfl rfl rfl).trans rfl) hS (fun w hS => x_eqs (hF.tmp 116 rfl) (hF.tmp 117 rfl)) rfl ?_; clear hF; intro a hF
            rw [decide_eq_true (rfl)] at hF
            refine r_take 18 hF rfl rfl rfl (by kernel_rfl) (by kernel_rfl) (by kernel_rfl) (fun _ _ _ h => h) rfl hS (fun w hS => x_pickT (hF.tmp 114 rfl) rfl (hF.tmp 118 rfl)) rfl ?_; clear hF; intro a hF
            refine r_take 19 hF rfl rfl rfl (by kernel_rfl) (by kernel_rfl) (by kernel_rfl) (fun _ _ _ h => h) rfl hS (fun w hS => x_move (hF.tmp 119 rfl)) rfl ?_; clear hF; intro a hF
            refine r_take 20 hF rfl rfl rfl (by kernel_rfl) (by kernel_rfl) (by kernel_rfl) (fun _ _ _ h => h) ((wanted_of hF rfl rfl rfl rfl).trans rfl) hS (fun w hS => x_move (hF.tmp 15 rfl)) rfl ?_; clear hF; intro a hF
            refine r_take 21 hF rfl rfl rfl (by kernel_rfl) (by kernel_rfl) (by kernel_rfl) (fun _ _ _ h => h) ((wanted_of hF rfl rfl rfl rfl).trans rfl) hS (fun w hS => x_b2s Try.underlying42 Try.underlying5 Try.underlying9 (Row.rd (ok' := fun k_ => (fun _ => False) k_ ∨ (.slice Ar98 ((cat l l.length).take (rndI at_ (((cat l l.length).length : Int) + 1)).toNat).length cr98 : Value).ownBlock = some k_) (SL.row hS 98 rfl) (fun _ hk_ _ => .inl hk_) (fun _ hk_ => .inr hk_)) (hF.tmp 121 rfl)) rfl ?_; clear hF; intro a hF
            refine r_take 22 hF rfl rfl rfl (by kernel_rfl) (by kernel_rfl) (by kernel_rfl) (fun _ _ _ h => h) ((wanted_of hF rfl rfl rfl rfl).trans rfl) hS (fun w hS => x_move (hF.tmp 8 rfl)) rfl ?_; clear hF; intro a hF
            refine r_take 23 hF rfl rfl rfl (by kernel_rfl) (by kernel_rfl) (by kernel_rfl) (fun _ _ _ h => h) ((wanted_of hF rfl rfl rfl rfl).trans rfl) hS (fun w hS => x_move (hF.tmp 13 rfl)) rfl ?_; clear hF; intro a hF
            refine r_take 24 hF rfl rfl rfl (by kernel_rfl) (by kernel_rfl) (by kernel_rfl) (fun _ _ _ h => h) ((wanted_of hF rfl rfl rfl rfl).trans rfl) hS (fun w hS => x_sliceS (xs := (cat l l.length)) Try.underlying9 (hF.tmp 123 rfl) (hF.tmp 124 rfl) (by omega) (by omega)) rfl ?_; clear hF; intro a hF
            refine r_take 25 hF rfl rfl rfl (by kernel_rfl) (by kernel_rfl) (by kernel_rfl) (fun _ _ _ h => h) ((wanted_of hF rfl rfl rfl rfl).trans rfl) hS (fun w hS => x_eqs (hF.tmp 122 rfl) (hF.tmp 125 rfl)) rfl ?_; clear hF; intro a hF
            rw [decide_eq_true (rfl)] at hF
            refine r_take 26 hF rfl rfl rfl (by kernel_rfl) (by kernel_rfl) (by kernel_rfl) (fun _ _ _ h => h) rfl hS (fun w hS => x_pickT (hF.tmp 120 rfl) rfl (hF.tmp 126 rfl)) rfl ?_; clear hF; intro a hF
            refine r_take 27 hF rfl rfl rfl (by kernel_rfl) (by kernel_rfl) (by kernel_rfl) (fun _ _ _ h => h) rfl hS (fun w hS => x_move (hF.tmp 127 rfl)) rfl ?_; clear hF; intro a hF
            refine r_take 28 hF rfl rfl rfl (by kernel_rfl) (by kernel_rfl) (by kernel_rfl) (fun _ _ _ h => h) ((wanted_of hF rfl rfl rfl rfl).trans rfl) hS (fun w hS => x_move (hF.tmp 7 rfl)) rfl ?_; clear hF; intro a hF
            refine r_take 29 hF rfl rfl rfl (by kernel_rfl) (by kernel_rfl) (by kernel_rfl) (fun _ _ _ h => h) ((wanted_of hF rfl rfl rfl rfl).trans rfl) hS (fun w hS => x_move (hF.tmp 0 rfl)) rfl ?_; clear hF; intro a hF
            refine r_take 31 hF rfl rfl rfl (by kernel_rfl) (by kernel_rfl) (by kernel_rfl) (fun _ _ _ h => h) ((wanted_of hF rfl rfl rfl rfl).trans rfl) hS (fun w hS => x_move (hF.tmp 13 rfl)) rfl ?_; clear hF; intro a hF
            refine r_do 30 rfl (by kernel_rfl) ((wanted_of hF rfl rfl rfl rfl).trans rfl) rfl ?_
            refine w_call hF (x_enter Try.func26 (by kernel_rfl) rfl (by simp only [List.map_toArray, List.map_cons, List.map_nil, hF.tmp 129 rfl, hF.tmp 130 rfl] <;> rfl)) (safe_calls _ hD1_1 (it_ok hH 70 rfl) n) rfl rfl ?_
            rintro _ w ⟨rfl, hm_⟩; refine ⟨_, rfl, ?_⟩; clear hF; intro a hF; have hH := hH.same hm_
            clear hS; have hS : SL _ _ := SL.of hH (sub_cons (sub_cons (sub_nil _) 98 rfl) 75 rfl); refine ⟨hS, ?_⟩
            rw [pm2_get] at hF
            refine r_take 32 hF rfl rfl rfl (by kernel_rfl) (by kernel_rfl) (by kernel_rfl) (fun _ _ _ h => h) ((wanted_of hF rfl rfl rfl rfl).trans rfl) hS (fun w hS => x_eql (hF.tmp 131 rfl) (hF.tmp 132 rfl)) rfl ?_; clear hF; intro a hF
            rw [decide_eq_true (rfl)] at hF
            refine r_take 33 hF rfl rfl rfl (by kernel_rfl) (by kernel_rfl) (by kernel_rfl) (fun _ _ _ h => h) rfl hS (fun w hS => x_pickT (hF.tmp 128 rfl) rfl (hF.tmp 133 rfl)) rfl ?_; clear hF; intro a hF
            refine r_take 34 hF rfl rfl rfl (by kernel_rfl) (by kernel_rfl) (by kernel_rfl) (fun _ _ _ h => h) rfl hS (fun w hS => x_assign (hF.tmp 134 rfl)) rfl ?_; clear hF; intro a hF
            refine r_end (by kernel_rfl) ?_; clear hS
            refine hK27 _ _ ?_
            refine wp_ret ?_
            try simp only [Exit.then, Exit.inBlock]
            exact fin_ret hF (res1 hF rfl rfl) ⟨rfl, hH.mods⟩

set_option maxRecDepth 100000 in
set_option maxHeartbeats 1000000 in
theorem nat_calls (w0 : World) (n : Int) : Calls Try.prog 67 #[.pointer none, .int .i64 n] w0 fun e w' => e = .returned (.tuple #[.agg #[.slice none 0 0, .int .i64 0], .int .i64 1]) ∧ Mods (fun _ => False) w0 w' := by
  refine calls_of_wp Try.func67 rfl ?_
  have hF := Fr.enter #[.pointer none, .int .i64 n] 24 (slotsOf [.pointer none, .int .i64 n] 0) (Nat.le_of_ble_eq_true rfl) (fun i v h => by have h2 := (get_slotsOf _ 0 i v h).2; simpa only [List.getElem?_toArray, Nat.sub_zero] using h2)
  have hH := Hp.nil (fun _ => False) w0
  rw [Try.ntmps67]
  revert hF; generalize (⟨(#[.pointer none, .int .i64 n] : Array Value) ++ Array.replicate (24 - (#[.pointer none, .int .i64 n] : Array Value).size) undef, []⟩ : Act) = a; intro hF
  refine wp_seq_k fun khK1 hK1 => ?_
  refine wp_region_lit ?_
  refine wpList_plain rfl fun K hK => ?_
  refine w_alloc 4 hF hH rfl ty108 ?_
  clear hF hH; intro a w b4 hF hH
  refine hK _ _ ?_; clear hK K
  refine l_at hF rfl rfl rfl (x_assign rfl) ?_; clear hF; intro a hF
  refine wpList_nil ?_
  refine hK1 _ _ ?_
  refine wp_seq_k fun khK2 hK2 => ?_
  refine wp_seq_k fun khK3 hK3 => ?_
  refine wp_region_lit ?_
  refine l_at hF rfl rfl rfl (x_move (hF.tmp 0 rfl)) ?_; clear hF; intro a hF
  refine l_at hF rfl rfl rfl (x_ptrnil Try.underlying40 (hF.tmp 8 rfl) rfl) ?_; clear hF; intro a hF
  refine wpList_nil ?_
  refine hK3 _ _ ?_
  refine wp_cond_true (hF.tmp 9 rfl) ?_
  refine wp_seq_k fun khK4 hK4 => ?_
  refine wp_region_lit ?_
  refine l_at hF rfl rfl rfl (x_buildS (cells := #[.slice none 0 0, .int .i64 0]) (places := #[(0, 1), (1, 1)]) Try.underlying108 ty108 (by kernel_rfl) Array.map_empty rfl) ?_; clear hF; intro a hF
  refine wpList_plain rfl fun K hK => ?_
  refine w_storeA 4 hH ty108 rfl (hF.tmp 4 rfl) (hF.tmp 10 rfl) rfl (by simp [Value.cells, Value.oneCell']) rfl ?_
  clear hH; intro w hH
  refine hK _ _ ?_; clear hK K
  refine l_at hF rfl rfl rfl (x_assign rfl) ?_; clear hF; intro a hF
  refine wpList_nil ?_
  refine hK4 _ _ ?_
  refine wp_ret ?_
  try simp only [Exit.then, Exit.inBlock]
  exact fin_ret hF (resct hF rfl rfl rfl (hH.at 4 rfl) ty108 rfl) ⟨rfl, hH.mods⟩

set_option maxRecDepth 100000 in
set_option maxHeartbeats 1000000 in
theorem nread_calls (w0 : World) (n : Int) : Calls Try.prog 23 #[.pointer none, .int .i64 n] w0 fun e w' => ∃ Ar cr, e = .returned (.tuple #[.slice Ar 0 cr, .int .i64 1]) ∧ Mods (fun _ => False) w0 w' := by
  refine calls_of_wp Try.func23 rfl ?_
  have hF := Fr.enter #[.pointer none, .int .i64 n] 18 (slotsOf [.pointer none, .int .i64 n] 0) (Nat.le_of_ble_eq_true rfl) (fun i v h => by have h2 := (get_slotsOf _ 0 i v h).2; simpa only [List.getElem?_toArray, Nat.sub_zero] using h2)
  have hH := Hp.nil (fun _ => False) w0
  rw [Try.ntmps23]
  revert hF; generalize (⟨(#[.pointer none, .int .i64 n] : Array Value) ++ Array.replicate (18 - (#[.pointer none, .int .i64 n] : Array Value).size) undef, []⟩ : Act) = a; intro hF
  refine wp_seq_k fun khK1 hK1 => ?_
  refine wp_region_lit ?_
  refine l_at hF rfl rfl rfl (x_assign rfl) ?_; clear hF; intro a hF
  refine l_at hF rfl rfl rfl (x_assign rfl) ?_; clear hF; intro a hF
  refine wpList_nil ?_
  refine hK1 _ _ ?_
  refine wp_seq_k fun khK2 hK2 => ?_
  refine wp_region_lit ?_
  refine l_at hF rfl rfl rfl (x_move (hF.tmp 0 rfl)) ?_; clear hF; intro a hF
  refine l_at hF rfl rfl rfl (x_move (hF.tmp 1 rfl)) ?_; clear hF; intro a hF
  refine wpList_plain rfl fun K hK => ?_
  refine w_call hF (x_enter Try.func67 (by kernel_rfl) rfl (by simp only [List.map_toArray, List.map_cons, List.map_nil, hF.tmp 9 rfl, hF.tmp 10 rfl] <;> rfl)) (nat_calls _ n) rfl rfl ?_
  rintro _ w ⟨rfl, hm_⟩; refine ⟨_, rfl, ?_⟩; clear hF; intro a hF; have hH := hH.same hm_
  refine hK _ _ ?_; clear hK K
  refine l_at hF rfl rfl rfl (x_move (hF.tmp 11 rfl)) ?_; clear hF; intro a hF
  refine l_at hF rfl rfl rfl (x_extract (hF.tmp 8 rfl) rfl) ?_; clear hF; intro a hF
  refine l_at hF rfl rfl rfl (x_extract (hF.tmp 8 rfl) rfl) ?_; clear hF; intro a hF
  refine wpList_plain rfl fun K hK => ?_
  refine w_alloc 6 hF hH rfl ty108 ?_
  clear hF hH; intro a w b6 hF hH
  refine hK _ _ ?_; clear hK K
  refine wpList_plain rfl fun K hK => ?_
  refine w_storeA 6 hH ty108 rfl (hF.tmp 6 rfl) (hF.tmp 12 rfl) rfl (by simp [Value.cells, Value.oneCell']) rfl ?_
  clear hH; intro w hH
  refine hK _ _ ?_; clear hK K
  refine l_at hF rfl rfl rfl (x_assign (hF.tmp 13 rfl)) ?_; clear hF; intro a hF
  refine wpList_nil ?_
  refine hK2 _ _ ?_
  refine wp_seq_k fun khK3 hK3 => ?_
  refine wp_region_lit ?_
  refine l_at hF rfl rfl rfl (x_faddr Try.underlying108 rfl ty42 (by decide) (hF.tmp 6 rfl) rfl) ?_; clear hF; intro a hF
  refine l_at hF rfl rfl rfl (x_load1 ty42 (hF.tmp 14 rfl) (blk_cell (hH.at 6 rfl) 0 rfl)) ?_; clear hF; intro a hF
  refine wpList_plain rfl fun K hK => ?_
  refine w_call hF (x_enter Try.func68 (by kernel_rfl) rfl (by simp only [List.map_toArray, List.map_cons, List.map_nil, hF.tmp 15 rfl] <;> rfl)) (clone_calls _ (Rd.nil (.int .u8) _ (fun _ => False)) (by simp)) rfl rfl ?_
  rintro _ w ⟨vr16, rfl, hm_, hr_⟩; refine ⟨_, rfl, ?_⟩; clear hF; intro a hF; have hH := Hp.rowOut hH 16 hm_ hr_; obtain ⟨Ar16, cr16, rfl⟩ := (hH.row 16 rfl).form
  refine hK _ _ ?_; clear hK K
  refine l_at hF rfl rfl rfl (x_move (hF.tmp 7 rfl)) ?_; clear hF; intro a hF
  refine l_at hF rfl rfl rfl (x_assign (hF.tmp 16 rfl)) ?_; clear hF; intro a hF
  refine l_at hF rfl rfl rfl (x_assign (hF.tmp 17 rfl)) ?_; clear hF; intro a hF
  refine wpList_nil ?_
  refine hK3 _ _ ?_
  refine wp_ret ?_
  try simp only [Exit.then, Exit.inBlock]
  exact fin_ret hF (res2 hF rfl rfl rfl) ⟨_, _, rfl, hH.mods⟩

set_option maxRecDepth 100000 in
set_option maxHeartbeats 1000000 in
theorem nsafe_calls (w0 : World) (n : Int) : Calls Try.prog 26 #[.pointer none, .int .i64 n] w0 fun e w' => e = .returned (.int .i64 0) ∧ Mods (fun _ => False) w0 w' := by
  refine calls_of_wp Try.func26 rfl ?_
  have hF := Fr.enter #[.pointer none, .int .i64 n] 15 (slotsOf [.pointer none, .int .i64 n] 0) (Nat.le_of_ble_eq_true rfl) (fun i v h => by have h2 := (get_slotsOf _ 0 i v h).2; simpa only [List.getElem?_toArray, Nat.sub_zero] using h2)
  have hH := Hp.nil (fun _ => False) w0
  rw [Try.ntmps26]
  revert hF; generalize (⟨(#[.pointer none, .int .i64 n] : Array Value) ++ Array.replicate (15 - (#[.pointer none, .int .i64 n] : Array Value).size) undef, []⟩ : Act) = a; intro hF
  refine wp_seq_k fun khK1 hK1 => ?_
  refine wp_region_lit ?_
  refine l_at hF rfl rfl rfl (x_assign rfl) ?_; clear hF; intro a hF
  refine wpList_nil ?_
  refine hK1 _ _ ?_
  refine wp_seq_k fun khK2 hK2 => ?_
  refine wp_region_lit ?_
  refine l_at hF rfl rfl rfl (x_move (hF.tmp 0 rfl)) ?_; clear hF; intro a hF
  refine l_at hF rfl rfl rfl (x_move (hF.tmp 1 rfl)) ?_; clear hF; intro a hF
  refine wpList_plain rfl fun K hK => ?_
  refine w_call hF (x_enter Try.func67 (by kernel_rfl) rfl (by simp only [List.map_toArray, List.map_cons, List.map_nil, hF.tmp 8 rfl, hF.tmp 9 rfl] <;> rfl)) (nat_calls _ n) rfl rfl ?_
  rintro _ w ⟨rfl, hm_⟩; refine ⟨_, rfl, ?_⟩; clear hF; intro a hF; have hH := hH.same hm_
  refine hK _ _ ?_; clear hK K
  refine l_at hF rfl rfl rfl (x_move (hF.tmp 10 rfl)) ?_; clear hF; intro a hF
  refine l_at hF rfl rfl rfl (x_extract (hF.tmp 7 rfl) rfl) ?_; clear hF; intro a hF
  refine l_at hF rfl rfl rfl (x_extract (hF.tmp 7 rfl) rfl) ?_; clear hF; intro a hF
  refine wpList_plain rfl fun K hK => ?_
  refine w_alloc 5 hF hH rfl ty108 ?_
  clear hF hH; intro a w b5 hF hH
  refine hK _ _ ?_; clear hK K
  refine wpList_plain rfl fun K hK => ?_
  refine w_storeA 5 hH ty108 rfl (hF.tmp 5 rfl) (hF.tmp 11 rfl) rfl (by simp [Value.cells, Value.oneCell']) rfl ?_
  clear hH; intro w hH
  refine hK _ _ ?_; clear hK K
  refine l_at hF rfl rfl rfl (x_assign (hF.tmp 12 rfl)) ?_; clear hF; intro a hF
  refine wpList_nil ?_
  refine hK2 _ _ ?_
  refine wp_seq_k fun khK3 hK3 => ?_
  refine wp_region_lit ?_
  refine l_at hF rfl rfl rfl (x_faddr Try.underlying108 rfl ty3 (by decide) (hF.tmp 5 rfl) rfl) ?_; clear hF; intro a hF
  refine l_at hF rfl rfl rfl (x_load1 ty3 (hF.tmp 13 rfl) (blk_cell (hH.at 5 rfl) 1 rfl)) ?_; clear hF; intro a hF
  refine l_at hF rfl rfl rfl (x_assign (hF.tmp 14 rfl)) ?_; clear hF; intro a hF
  refine wpList_nil ?_
  refine hK3 _ _ ?_
  refine wp_ret ?_
  try simp only [Exit.then, Exit.inBlock]
  exact fin_ret hF (res1 hF rfl rfl) ⟨rfl, hH.mods⟩

set_option maxRecDepth 100000 in
set_option maxHeartbeats 1000000 in
theorem nsync_calls (w0 : World) (n : Int) : Calls Try.prog 27 #[.pointer none, .int .i64 n] w0 fun e w' => e = .returned (.int .i64 1) ∧ Mods (fun _ => False) w0 w' := by
  refine calls_of_wp Try.func27 rfl ?_
  have hF := Fr.enter #[.pointer none, .int .i64 n] 26 (slotsOf [.pointer none, .int .i64 n] 0) (Nat.le_of_ble_eq_true rfl) (fun i v h => by have h2 := (get_slotsOf _ 0 i v h).2; simpa only [List.getElem?_toArray, Nat.sub_zero] using h2)
  have hH := Hp.nil (fun _ => False) w0
  rw [Try.ntmps27]
  revert hF; generalize (⟨(#[.pointer none, .int .i64 n] : Array Value) ++ Array.replicate (26 - (#[.pointer none, .int .i64 n] : Array Value).size) undef, []⟩ : Act) = a; intro hF
  refine wp_seq_k fun khK1 hK1 => ?_
  refine wp_region_lit ?_
  refine l_at hF rfl rfl rfl (x_assign rfl) ?_; clear hF; intro a hF
  refine wpList_nil ?_
  refine hK1 _ _ ?_
  refine wp_seq_k fun khK2 hK2 => ?_
  refine wp_region_lit ?_
  refine l_at hF rfl rfl rfl (x_move (hF.tmp 0 rfl)) ?_; clear hF; intro a hF
  refine l_at hF rfl rfl rfl (x_move (hF.tmp 1 rfl)) ?_; clear hF; intro a hF
  refine wpList_plain rfl fun K hK => ?_
  refine w_call hF (x_enter Try.func67 (by kernel_rfl) rfl (by simp only [List.map_toArray, List.map_cons, List.map_nil, hF.tmp 8 rfl, hF.tmp 9 rfl] <;> rfl)) (nat_calls _ n) rfl rfl ?_
  rintro _ w ⟨rfl, hm_⟩; refine ⟨_, rfl, ?_⟩; clear hF; intro a hF; have hH := hH.same hm_
  refine hK _ _ ?_; clear hK K
  refine l_at hF rfl rfl rfl (x_move (hF.tmp 10 rfl)) ?_; clear hF; intro a hF
  refine l_at hF rfl rfl rfl (x_extract (hF.tmp 7 rfl) rfl) ?_; clear hF; intro a hF
  refine l_at hF rfl rfl rfl (x_extract (hF.tmp 7 rfl) rfl) ?_; clear hF; intro a hF
  refine wpList_plain rfl fun K hK => ?_
  refine w_alloc 5 hF hH rfl ty108 ?_
  clear hF hH; intro a w b5 hF hH
  refine hK _ _ ?_; clear hK K
  refine wpList_plain rfl fun K hK => ?_
  refine w_storeA 5 hH ty108 rfl (hF.tmp 5 rfl) (hF.tmp 11 rfl) rfl (by simp [Value.cells, Value.oneCell']) rfl ?_
  clear hH; intro w hH
  refine hK _ _ ?_; clear hK K
  refine l_at hF rfl rfl rfl (x_assign (hF.tmp 12 rfl)) ?_; clear hF; intro a hF
  refine wpList_nil ?_
  refine hK2 _ _ ?_
  refine wp_seq_k fun khK3 hK3 => ?_
  refine wp_seq_k fun khK4 hK4 => ?_
  refine wp_region_lit ?_
  refine l_at hF rfl rfl rfl (x_move (hF.tmp 6 rfl)) ?_; clear hF; intro a hF
  refine l_at hF rfl rfl rfl (x_eql (hF.tmp 13 rfl) rfl) ?_; clear hF; intro a hF
  rw [show decide ((1 : Int) = 0) = false from rfl] at hF
  refine wpList_nil ?_
  refine hK4 _ _ ?_
  refine wp_cond_false (hF.tmp 14 rfl) ?_
  refine wp_skip ?_
  refine hK3 _ _ ?_
  refine wp_seq_k fun khK5 hK5 => ?_
  refine wp_region_lit ?_
  refine l_at hF rfl rfl rfl (x_move (hF.tmp 6 rfl)) ?_; clear hF; intro a hF
  refine l_at hF rfl rfl rfl (x_assign (hF.tmp 25 rfl)) ?_; clear hF; intro a hF
  refine wpList_nil ?_
  refine hK5 _ _ ?_
  refine wp_ret ?_
  try simp only [Exit.then, Exit.inBlock]
  exact fin_ret hF (res1 hF rfl rfl) ⟨rfl, hH.mods⟩

set_option maxRecDepth 100000 in
set_option maxHeartbeats 1000000 in
theorem nrem_calls (w0 : World) (n : Int) : Calls Try.prog 34 #[.pointer none, .int .i64 n] w0 fun e w' => e = .returned (.int .i64 1) ∧ Mods (fun _ => False) w0 w' := by
  refine calls_of_wp Try.func34 rfl ?_
  have hF := Fr.enter #[.pointer none, .int .i64 n] 21 (slotsOf [.pointer none, .int .i64 n] 0) (Nat.le_of_ble_eq_true rfl) (fun i v h => by have h2 := (get_slotsOf _ 0 i v h).2; simpa only [List.getElem?_toArray, Nat.sub_zero] using h2)
  have hH := Hp.nil (fun _ => False) w0
  rw [Try.ntmps34]
  revert hF; generalize (⟨(#[.pointer none, .int .i64 n] : Array Value) ++ Array.replicate (21 - (#[.pointer none, .int .i64 n] : Array Value).size) undef, []⟩ : Act) = a; intro hF
  refine wp_seq_k fun khK1 hK1 => ?_
  refine wp_region_lit ?_
  refine l_at hF rfl rfl rfl (x_assign rfl) ?_; clear hF; intro a hF
  refine wpList_nil ?_
  refine hK1 _ _ ?_
  refine wp_seq_k fun khK2 hK2 => ?_
  refine wp_region_lit ?_
  refine l_at hF rfl rfl rfl (x_move (hF.tmp 0 rfl)) ?_; clear hF; intro a hF
  refine l_at hF rfl rfl rfl (x_move (hF.tmp 1 rfl)) ?_; clear hF; intro a hF
  refine wpList_plain rfl fun K hK => ?_
  refine w_call hF (x_enter Try.func67 (by kernel_rfl) rfl (by simp only [List.map_toArray, List.map_cons, List.map_nil, hF.tmp 8 rfl, hF.tmp 9 rfl] <;> rfl)) (nat_calls _ n) rfl rfl ?_
  rintro _ w ⟨rfl, hm_⟩; refine ⟨_, rfl, ?_⟩; clear hF; intro a hF; have hH := hH.same hm_
  refine hK _ _ ?_; clear hK K
  refine l_at hF rfl rfl rfl (x_move (hF.tmp 10 rfl)) ?_; clear hF; intro a hF
  refine l_at hF rfl rfl rfl (x_extract (hF.tmp 7 rfl) rfl) ?_; clear hF; intro a hF
  refine l_at hF rfl rfl rfl (x_extract (hF.tmp 7 rfl) rfl) ?_; clear hF; intro a hF
  refine wpList_plain rfl fun K hK => ?_
  refine w_alloc 5 hF hH rfl ty108 ?_
  clear hF hH; intro a w b5 hF hH
  refine hK _ _ ?_; clear hK K
  refine wpList_plain rfl fun K hK => ?_
  refine w_storeA 5 hH ty108 rfl (hF.tmp 5 rfl) (hF.tmp 11 rfl) rfl (by simp [Value.cells, Value.oneCell']) rfl ?_
  clear hH; intro w hH
  refine hK _ _ ?_; clear hK K
  refine l_at hF rfl rfl rfl (x_assign (hF.tmp 12 rfl)) ?_; clear hF; intro a hF
  refine wpList_nil ?_
  refine hK2 _ _ ?_
  refine wp_seq_k fun khK3 hK3 => ?_
  refine wp_seq_k fun khK4 hK4 => ?_
  refine wp_region_lit ?_
  refine l_at hF rfl rfl rfl (x_move (hF.tmp 6 rfl)) ?_; clear hF; intro a hF
  refine l_at hF rfl rfl rfl (x_eql (hF.tmp 13 rfl) rfl) ?_; clear hF; intro a hF
  rw [show decide ((1 : Int) = 0) = false from rfl] at hF
  refine wpList_nil ?_
  refine hK4 _ _ ?_
  refine wp_cond_false (hF.tmp 14 rfl) ?_
  refine wp_skip ?_
  refine hK3 _ _ ?_
  refine wp_seq_k fun khK5 hK5 => ?_
  refine wp_region_lit ?_
  refine l_at hF rfl rfl rfl (x_move (hF.tmp 6 rfl)) ?_; clear hF; intro a hF
  refine l_at hF rfl rfl rfl (x_assign (hF.tmp 20 rfl)) ?_; clear hF; intro a hF
  refine wpList_nil ?_
  refine hK5 _ _ ?_
  refine wp_ret ?_
  try simp only [Exit.then, Exit.inBlock]
  exact fin_ret hF (res1 hF rfl rfl) ⟨rfl, hH.mods⟩

set_option maxRecDepth 100000 in
set_option maxHeartbeats 1000000 in
theorem ncut_calls (w0 : World) (n k : Int) : Calls Try.prog 25 #[.pointer none, .int .i64 n, .int .i64 k] w0 fun e w' => e = .returned (.int .i64 1) ∧ Mods (fun _ => False) w0 w' := by
  refine calls_of_wp Try.func25 rfl ?_
  have hF := Fr.enter #[.pointer none, .int .i64 n, .int .i64 k] 41 (slotsOf [.pointer none, .int .i64 n, .int .i64 k] 0) (Nat.le_of_ble_eq_true rfl) (fun i v h => by have h2 := (get_slotsOf _ 0 i v h).2; simpa only [List.getElem?_toArray, Nat.sub_zero] using h2)
  have hH := Hp.nil (fun _ => False) w0
  rw [Try.ntmps25]
  revert hF; generalize (⟨(#[.pointer none, .int .i64 n, .int .i64 k] : Array Value) ++ Array.replicate (41 - (#[.pointer none, .int .i64 n, .int .i64 k] : Array Value).size) undef, []⟩ : Act) = a; intro hF
  refine wp_seq_k fun khK1 hK1 => ?_
  refine wp_region_lit ?_
  refine l_at hF rfl rfl rfl (x_assign rfl) ?_; clear hF; intro a hF
  refine wpList_nil ?_
  refine hK1 _ _ ?_
  refine wp_seq_k fun khK2 hK2 => ?_
  refine wp_region_lit ?_
  refine l_at hF rfl rfl rfl (x_move (hF.tmp 0 rfl)) ?_; clear hF; intro a hF
  refine l_at hF rfl rfl rfl (x_move (hF.tmp 1 rfl)) ?_; clear hF; intro a hF
  refine wpList_plain rfl fun K hK => ?_
  refine w_call hF (x_enter Try.func67 (by kernel_rfl) rfl (by simp only [List.map_toArray, List.map_cons, List.map_nil, hF.tmp 10 rfl, hF.tmp 11 rfl] <;> rfl)) (nat_calls _ n) rfl rfl ?_
  rintro _ w ⟨rfl, hm_⟩; refine ⟨_, rfl, ?_⟩; clear hF; intro a hF; have hH := hH.same hm_
  refine hK _ _ ?_; clear hK K
  refine l_at hF rfl rfl rfl (x_move (hF.tmp 12 rfl)) ?_; clear hF; intro a hF
  refine l_at hF rfl rfl rfl (x_extract (hF.tmp 9 rfl) rfl) ?_; clear hF; intro a hF
  refine l_at hF rfl rfl rfl (x_extract (hF.tmp 9 rfl) rfl) ?_; clear hF; intro a hF
  refine wpList_plain rfl fun K hK => ?_
  refine w_alloc 7 hF hH rfl ty108 ?_
  clear hF hH; intro a w b7 hF hH
  refine hK _ _ ?_; clear hK K
  refine wpList_plain rfl fun K hK => ?_
  refine w_storeA 7 hH ty108 rfl (hF.tmp 7 rfl) (hF.tmp 13 rfl) rfl (by simp [Value.cells, Value.oneCell']) rfl ?_
  clear hH; intro w hH
  refine hK _ _ ?_; clear hK K
  refine l_at hF rfl rfl rfl (x_assign (hF.tmp 14 rfl)) ?_; clear hF; intro a hF
  refine wpList_nil ?_
  refine hK2 _ _ ?_
  refine wp_seq_k fun khK3 hK3 => ?_
  refine wp_block ?_
  refine wp_seq_k fun khK4 hK4 => ?_
  refine wp_region_lit ?_
  refine l_at hF rfl rfl rfl (x_move (hF.tmp 8 rfl)) ?_; clear hF; intro a hF
  refine l_at hF rfl rfl rfl (x_neq (hF.tmp 16 rfl) rfl) ?_; clear hF; intro a hF
  rw [show (!decide ((1 : Int) = 0)) = true from rfl] at hF
  refine l_at hF rfl rfl rfl (x_assign (hF.tmp 17 rfl)) ?_; clear hF; intro a hF
  refine wpList_nil ?_
  refine hK4 _ _ ?_
  refine wp_cond_true (hF.tmp 15 rfl) ?_
  refine wp_seq_k fun khK5 hK5 => ?_
  refine wp_region_lit ?_
  refine l_at hF rfl rfl rfl (x_move (hF.tmp 8 rfl)) ?_; clear hF; intro a hF
  refine l_at hF rfl rfl rfl (x_assign (hF.tmp 18 rfl)) ?_; clear hF; intro a hF
  refine wpList_nil ?_
  refine hK5 _ _ ?_
  refine wp_ret ?_
  try simp only [Exit.then, Exit.inBlock]
  exact fin_ret hF (res1 hF rfl rfl) ⟨rfl, hH.mods⟩

set_option maxRecDepth 100000 in
set_option maxHeartbeats 1000000 in
theorem napp_calls (w0 : World) (n : Int) (Ab : Option Addr) (m c : Nat) : Calls Try.prog 22 #[.pointer none, .int .i64 n, .slice Ab m c] w0 fun e w' => e = .returned (.int .i64 1) ∧ Mods (fun _ => False) w0 w' := by
  refine calls_of_wp Try.func22 rfl ?_
  have hF := Fr.enter #[.pointer none, .int .i64 n, .slice Ab m c] 61 (slotsOf [.pointer none, .int .i64 n, .slice Ab m c] 0) (Nat.le_of_ble_eq_true rfl) (fun i v h => by have h2 := (get_slotsOf _ 0 i v h).2; simpa only [List.getElem?_toArray, Nat.sub_zero] using h2)
  have hH := Hp.nil (fun _ => False) w0
  rw [Try.ntmps22]
  revert hF; generalize (⟨(#[.pointer none, .int .i64 n, .slice Ab m c] : Array Value) ++ Array.replicate (61 - (#[.pointer none, .int .i64 n, .slice Ab m c] : Array Value).size) undef, []⟩ : Act) = a; intro hF
  refine wp_seq_k fun khK1 hK1 => ?_
  refine wp_region_lit ?_
  refine l_at hF rfl rfl rfl (x_assign rfl) ?_; clear hF; intro a hF
  refine wpList_nil ?_
  refine hK1 _ _ ?_
  refine wp_seq_k fun khK2 hK2 => ?_
  refine wp_seq_k fun khK3 hK3 => ?_
  refine wp_region_lit ?_
  refine l_at hF rfl rfl rfl (x_move (hF.tmp 0 rfl)) ?_; clear hF; intro a hF
  refine l_at hF rfl rfl rfl (x_ptrnil Try.underlying40 (hF.tmp 9 rfl) rfl) ?_; clear hF; intro a hF
  refine wpList_nil ?_
  refine hK3 _ _ ?_
  refine wp_cond_true (hF.tmp 10 rfl) ?_
  refine wp_seq_k fun khK4 hK4 => ?_
  refine wp_region_lit ?_
  refine l_at hF rfl rfl rfl (x_assign rfl) ?_; clear hF; intro a hF
  refine wpList_nil ?_
  refine hK4 _ _ ?_
  refine wp_ret ?_
  try simp only [Exit.then, Exit.inBlock]
  exact fin_ret hF (res1 hF rfl rfl) ⟨rfl, hH.mods⟩

set_option maxRecDepth 100000 in
set_option maxHeartbeats 1000000 in
theorem nswap_calls (w0 : World) (Ab : Option Addr) (m c : Nat) : Calls Try.prog 28 #[.pointer none, .slice Ab m c] w0 fun e w' => e = .returned (.int .i64 1) ∧ Mods (fun _ => False) w0 w' := by
  refine calls_of_wp Try.func28 rfl ?_
  have hF := Fr.enter #[.pointer none, .slice Ab m c] 17 (slotsOf [.pointer none, .slice Ab m c] 0) (Nat.le_of_ble_eq_true rfl) (fun i v h => by have h2 := (get_slotsOf _ 0 i v h).2; simpa only [List.getElem?_toArray, Nat.sub_zero] using h2)
  have hH := Hp.nil (fun _ => False) w0
  rw [Try.ntmps28]
  revert hF; generalize (⟨(#[.pointer none, .slice Ab m c] : Array Value) ++ Array.replicate (17 - (#[.pointer none, .slice Ab m c] : Array Value).size) undef, []⟩ : Act) = a; intro hF
  refine wp_seq_k fun khK1 hK1 => ?_
  refine wp_region_lit ?_
  refine l_at hF rfl rfl rfl (x_assign rfl) ?_; clear hF; intro a hF
  refine wpList_nil ?_
  refine hK1 _ _ ?_
  refine wp_seq_k fun khK2 hK2 => ?_
  refine wp_block ?_
  refine wp_seq_k fun khK3 hK3 => ?_
  refine wp_region_lit ?_
  refine l_at hF rfl rfl rfl (x_move (hF.tmp 0 rfl)) ?_; clear hF; intro a hF
  refine l_at hF rfl rfl rfl (x_ptrnil Try.underlying40 (hF.tmp 6 rfl) rfl) ?_; clear hF; intro a hF
  refine l_at hF rfl rfl rfl (x_assign (hF.tmp 7 rfl)) ?_; clear hF; intro a hF
  refine wpList_nil ?_
  refine hK3 _ _ ?_
  refine wp_cond_true (hF.tmp 5 rfl) ?_
  refine wp_seq_k fun khK4 hK4 => ?_
  refine wp_region_lit ?_
  refine l_at hF rfl rfl rfl (x_assign rfl) ?_; clear hF; intro a hF
  refine wpList_nil ?_
  refine hK4 _ _ ?_
  refine wp_ret ?_
  try simp only [Exit.then, Exit.inBlock]
  exact fin_ret hF (res1 hF rfl rfl) ⟨rfl, hH.mods⟩

set_option maxRecDepth 100000 in
set_option maxHeartbeats 1000000 in
theorem nsegs_calls (w0 : World)  : Calls Try.prog 40 #[.pointer none] w0 fun e w' => e = .returned (.slice none 0 0) ∧ Mods (fun _ => False) w0 w' := by
  refine calls_of_wp Try.func40 rfl ?_
  have hF := Fr.enter #[.pointer none] 11 (slotsOf [.pointer none] 0) (Nat.le_of_ble_eq_true rfl) (fun i v h => by have h2 := (get_slotsOf _ 0 i v h).2; simpa only [List.getElem?_toArray, Nat.sub_zero] using h2)
  have hH := Hp.nil (fun _ => False) w0
  rw [Try.ntmps40]
  revert hF; generalize (⟨(#[.pointer none] : Array Value) ++ Array.replicate (11 - (#[.pointer none] : Array Value).size) undef, []⟩ : Act) = a; intro hF
  refine wp_seq_k fun khK1 hK1 => ?_
  refine wp_region_lit ?_
  refine l_at hF rfl rfl rfl (x_assign rfl) ?_; clear hF; intro a hF
  refine wpList_nil ?_
  refine hK1 _ _ ?_
  refine wp_seq_k fun khK2 hK2 => ?_
  refine wp_seq_k fun khK3 hK3 => ?_
  refine wp_region_lit ?_
  refine l_at hF rfl rfl rfl (x_move (hF.tmp 0 rfl)) ?_; clear hF; intro a hF
  refine l_at hF rfl rfl rfl (x_ptrnil Try.underlying40 (hF.tmp 3 rfl) rfl) ?_; clear hF; intro a hF
  refine wpList_nil ?_
  refine hK3 _ _ ?_
  refine wp_cond_true (hF.tmp 4 rfl) ?_
  refine wp_seq_k fun khK4 hK4 => ?_
  refine wp_region_lit ?_
  refine l_at hF rfl rfl rfl (x_assign rfl) ?_; clear hF; intro a hF
  refine wpList_nil ?_
  refine hK4 _ _ ?_
  refine wp_ret ?_
  try simp only [Exit.then, Exit.inBlock]
  exact fin_ret hF (res1 hF rfl rfl) ⟨rfl, hH.mods⟩

set_option maxRecDepth 100000 in
set_option maxHeartbeats 1000000 in
theorem nroot_calls (w0 : World)  : Calls Try.prog 30 #[.pointer none] w0 fun e w' => e = .returned (.slice none 0 0) ∧ Mods (fun _ => False) w0 w' := by
  refine calls_of_wp Try.func30 rfl ?_
  have hF := Fr.enter #[.pointer none] 10 (slotsOf [.pointer none] 0) (Nat.le_of_ble_eq_true rfl) (fun i v h => by have h2 := (get_slotsOf _ 0 i v h).2; simpa only [List.getElem?_toArray, Nat.sub_zero] using h2)
  have hH := Hp.nil (fun _ => False) w0
  rw [Try.ntmps30]
  revert hF; generalize (⟨(#[.pointer none] : Array Value) ++ Array.replicate (10 - (#[.pointer none] : Array Value).size) undef, []⟩ : Act) = a; intro hF
  refine wp_seq_k fun khK1 hK1 => ?_
  refine wp_region_lit ?_
  refine l_at hF rfl rfl rfl (x_assign rfl) ?_; clear hF; intro a hF
  refine wpList_nil ?_
  refine hK1 _ _ ?_
  refine wp_seq_k fun khK2 hK2 => ?_
  refine wp_seq_k fun khK3 hK3 => ?_
  refine wp_region_lit ?_
  refine l_at hF rfl rfl rfl (x_move (hF.tmp 0 rfl)) ?_; clear hF; intro a hF
  refine l_at hF rfl rfl rfl (x_ptrnil Try.underlying40 (hF.tmp 3 rfl) rfl) ?_; clear hF; intro a hF
  refine wpList_nil ?_
  refine hK3 _ _ ?_
  refine wp_cond_true (hF.tmp 4 rfl) ?_
  refine wp_seq_k fun khK4 hK4 => ?_
  refine wp_region_lit ?_
  refine l_at hF rfl rfl rfl (x_assign rfl) ?_; clear hF; intro a hF
  refine wpList_nil ?_
  refine hK4 _ _ ?_
  refine wp_ret ?_
  try simp only [Exit.then, Exit.inBlock]
  exact fin_ret hF (res1 hF rfl rfl) ⟨rfl, hH.mods⟩

set_option maxRecDepth 100000 in
set_option maxHeartbeats 1000000 in
theorem npower_calls (w0 : World) (Ab : Option Addr) (m c : Nat) : Calls Try.prog 29 #[.pointer none, .slice Ab m c] w0 fun e w' => e = .returned (.pointer none) ∧ Mods (fun _ => False) w0 w' := by
  refine calls_of_wp Try.func29 rfl ?_
  have hF := Fr.enter #[.pointer none, .slice Ab m c] 90 (slotsOf [.pointer none, .slice Ab m c] 0) (Nat.le_of_ble_eq_true rfl) (fun i v h => by have h2 := (get_slotsOf _ 0 i v h).2; simpa only [List.getElem?_toArray, Nat.sub_zero] using h2)
  have hH := Hp.nil (fun _ => False) w0
  rw [Try.ntmps29]
  revert hF; generalize (⟨(#[.pointer none, .slice Ab m c] : Array Value) ++ Array.replicate (90 - (#[.pointer none, .slice Ab m c] : Array Value).size) undef, []⟩ : Act) = a; intro hF
  refine wp_seq_k fun khK1 hK1 => ?_
  refine wp_region_lit ?_
  refine l_at hF rfl rfl rfl (x_assign rfl) ?_; clear hF; intro a hF
  refine wpList_nil ?_
  refine hK1 _ _ ?_
  refine wp_seq_k fun khK2 hK2 => ?_
  refine wp_seq_k fun khK3 hK3 => ?_
  refine wp_region_lit ?_
  refine l_at hF rfl rfl rfl (x_move (hF.tmp 0 rfl)) ?_; clear hF; intro a hF
  refine l_at hF rfl rfl rfl (x_ptrnil Try.underlying40 (hF.tmp 12 rfl) rfl) ?_; clear hF; intro a hF
  refine wpList_nil ?_
  refine hK3 _ _ ?_
  refine wp_cond_true (hF.tmp 13 rfl) ?_
  refine wp_seq_k fun khK4 hK4 => ?_
  refine wp_region_lit ?_
  refine l_at hF rfl rfl rfl (x_assign rfl) ?_; clear hF; intro a hF
  refine wpList_nil ?_
  refine hK4 _ _ ?_
  refine wp_ret ?_
  try simp only [Exit.then, Exit.inBlock]
  exact fin_ret hF (res1 hF rfl rfl) ⟨rfl, hH.mods⟩

set_option maxRecDepth 100000 in
set_option maxHeartbeats 1000000 in
theorem nil_calls (w0 : World) (K n q : Int) (Ab Ak : Option Addr) (mb cb mk ck : Nat) : Calls Try.prog 8 #[.agg #[.int .i64 K, .int .i64 n, .int .i64 q, .slice Ab mb cb, .slice Ak mk ck]] w0 fun e w' => e = .returned (.bool true) ∧ Mods (fun _ => False) w0 w' := by
  refine calls_of_wp Try.func8 rfl ?_
  have hF := Fr.enter #[.agg #[.int .i64 K, .int .i64 n, .int .i64 q, .slice Ab mb cb, .slice Ak mk ck]] 88 (slotsOf [.agg #[.int .i64 K, .int .i64 n, .int .i64 q, .slice Ab mb cb, .slice Ak mk ck]] 0) (Nat.le_of_ble_eq_true rfl) (fun i v h => by have h2 := (get_slotsOf _ 0 i v h).2; simpa only [List.getElem?_toArray, Nat.sub_zero] using h2)
  have hH := Hp.nil (fun _ => False) w0
  rw [Try.ntmps8]
  revert hF; generalize (⟨(#[.agg #[.int .i64 K, .int .i64 n, .int .i64 q, .slice Ab mb cb, .slice Ak mk ck]] : Array Value) ++ Array.replicate (88 - (#[.agg #[.int .i64 K, .int .i64 n, .int .i64 q, .slice Ab mb cb, .slice Ak mk ck]] : Array Value).size) undef, []⟩ : Act) = a; intro hF
  refine wp_seq_k fun khK1 hK1 => ?_
  refine wp_region_lit ?_
  refine wpList_plain rfl fun K hK => ?_
  refine w_box 1 hF hH rfl (hF.tmp 0 rfl) ?_
  clear hF hH; intro a w b1 hF hH
  refine hK _ _ ?_; clear hK K
  refine l_at hF rfl rfl rfl (x_assign rfl) ?_; clear hF; intro a hF
  refine wpList_nil ?_
  refine hK1 _ _ ?_
  refine wp_seq_k fun khK2 hK2 => ?_
  refine wp_region_lit ?_
  refine l_at hF rfl rfl rfl (x_assign rfl) ?_; clear hF; intro a hF
  refine wpList_nil ?_
  refine hK2 _ _ ?_
  refine wp_seq_k fun khK3 hK3 => ?_
  refine wp_region_lit ?_
  refine l_at hF rfl rfl rfl (x_move (hF.tmp 3 rfl)) ?_; clear hF; intro a hF
  refine l_at hF rfl rfl rfl (x_faddr Try.underlying63 rfl ty3 (by decide) (hF.tmp 1 rfl) rfl) ?_; clear hF; intro a hF
  refine l_at hF rfl rfl rfl (x_load1 ty3 (hF.tmp 8 rfl) (blk_cell (hH.at 1 rfl) 1 rfl)) ?_; clear hF; intro a hF
  refine wpList_plain rfl fun K hK => ?_
  refine w_call hF (x_enter Try.func23 (by kernel_rfl) rfl (by simp only [List.map_toArray, List.map_cons, List.map_nil, hF.tmp 7 rfl, hF.tmp 9 rfl] <;> rfl)) (nread_calls _ n) rfl rfl ?_
  rintro _ w ⟨Ar, cr, rfl, hm_⟩; refine ⟨_, rfl, ?_⟩; clear hF; intro a hF; have hH := hH.same hm_
  refine hK _ _ ?_; clear hK K
  refine l_at hF rfl rfl rfl (x_move (hF.tmp 10 rfl)) ?_; clear hF; intro a hF
  refine l_at hF rfl rfl rfl (x_extract (hF.tmp 6 rfl) rfl) ?_; clear hF; intro a hF
  refine l_at hF rfl rfl rfl (x_extract (hF.tmp 6 rfl) rfl) ?_; clear hF; intro a hF
  refine l_at hF rfl rfl rfl (x_assign (hF.tmp 11 rfl)) ?_; clear hF; intro a hF
  refine l_at hF rfl rfl rfl (x_assign (hF.tmp 12 rfl)) ?_; clear hF; intro a hF
  refine wpList_nil ?_
  refine hK3 _ _ ?_
  refine wp_seq_k fun khK4 hK4 => ?_
  refine wp_region_lit ?_
  refine wpList_plain rfl fun K hK => ?_
  refine w_call hF (x_enter Try.func21 (by kernel_rfl) rfl (by simp only [List.map_toArray, List.map_cons, List.map_nil] <;> rfl)) (alive_calls _) rfl rfl ?_
  rintro _ w ⟨rfl, hm_⟩; refine ⟨_, rfl, ?_⟩; clear hF; intro a hF; have hH := hH.same hm_
  refine hK _ _ ?_; clear hK K
  refine l_at hF rfl rfl rfl (x_move (hF.tmp 13 rfl)) ?_; clear hF; intro a hF
  refine l_atg hF ((wanted_of hF rfl rfl rfl rfl).trans rfl) rfl rfl (x_move (hF.tmp 4 rfl)) ?_; clear hF; intro a hF
  refine l_atg hF ((wanted_of hF rfl rfl rfl rfl).trans rfl) rfl rfl (x_len_slice Try.underlying42 (hF.tmp 15 rfl)) ?_; clear hF; intro a hF
  refine l_atg hF ((wanted_of hF rfl rfl rfl rfl).trans rfl) rfl rfl (x_eql (hF.tmp 16 rfl) rfl) ?_; clear hF; intro a hF
  rw [show decide (((0 : Nat) : Int) = 0) = true from rfl] at hF
  refine l_at hF rfl rfl rfl (x_pickT (hF.tmp 14 rfl) rfl (hF.tmp 17 rfl)) ?_; clear hF; intro a hF
  refine l_at hF rfl rfl rfl (x_move (hF.tmp 18 rfl)) ?_; clear hF; intro a hF
  refine l_atg hF ((wanted_of hF rfl rfl rfl rfl).trans rfl) rfl rfl (x_move (hF.tmp 5 rfl)) ?_; clear hF; intro a hF
  refine l_atg hF ((wanted_of hF rfl rfl rfl rfl).trans rfl) rfl rfl (x_eql (hF.tmp 20 rfl) rfl) ?_; clear hF; intro a hF
  rw [decide_eq_true (rfl)] at hF
  refine l_at hF rfl rfl rfl (x_pickT (hF.tmp 19 rfl) rfl (hF.tmp 21 rfl)) ?_; clear hF; intro a hF
  refine l_at hF rfl rfl rfl (x_move (hF.tmp 22 rfl)) ?_; clear hF; intro a hF
  refine l_atg hF ((wanted_of hF rfl rfl rfl rfl).trans rfl) rfl rfl (x_move (hF.tmp 3 rfl)) ?_; clear hF; intro a hF
  refine l_atg hF ((wanted_of hF rfl rfl rfl rfl).trans rfl) rfl rfl (x_faddr Try.underlying63 rfl ty3 (by decide) (hF.tmp 1 rfl) rfl) ?_; clear hF; intro a hF
  refine l_atg hF ((wanted_of hF rfl rfl rfl rfl).trans rfl) rfl rfl (x_load1 ty3 (hF.tmp 25 rfl) (blk_cell (hH.at 1 rfl) 1 rfl)) ?_; clear hF; intro a hF
  refine l_atg hF ((wanted_of hF rfl rfl rfl rfl).trans rfl) rfl rfl (x_faddr Try.underlying63 rfl ty42 (by decide) (hF.tmp 1 rfl) rfl) ?_; clear hF; intro a hF
  refine l_atg hF ((wanted_of hF rfl rfl rfl rfl).trans rfl) rfl rfl (x_load1 ty42 (hF.tmp 27 rfl) (blk_cell (hH.at 1 rfl) 3 rfl)) ?_; clear hF; intro a hF
  refine wpList_on ((wanted_of hF rfl rfl rfl rfl).trans rfl) fun K hK => ?_
  refine w_call hF (x_enter Try.func22 (by kernel_rfl) rfl (by simp only [List.map_toArray, List.map_cons, List.map_nil, hF.tmp 24 rfl, hF.tmp 26 rfl, hF.tmp 28 rfl] <;> rfl)) (napp_calls _ _ _ _ _) rfl rfl ?_
  rintro _ w ⟨rfl, hm_⟩; refine ⟨_, rfl, ?_⟩; clear hF; intro a hF; have hH := hH.same hm_
  refine hK _ _ ?_; clear hK K
  refine l_atg hF ((wanted_of hF rfl rfl rfl rfl).trans rfl) rfl rfl (x_eql (hF.tmp 29 rfl) rfl) ?_; clear hF; intro a hF
  rw [decide_eq_true (rfl)] at hF
  refine l_at hF rfl rfl rfl (x_pickT (hF.tmp 23 rfl) rfl (hF.tmp 30 rfl)) ?_; clear hF; intro a hF
  refine l_at hF rfl rfl rfl (x_move (hF.tmp 31 rfl)) ?_; clear hF; intro a hF
  refine l_atg hF ((wanted_of hF rfl rfl rfl rfl).trans rfl) rfl rfl (x_move (hF.tmp 3 rfl)) ?_; clear hF; intro a hF
  refine l_atg hF ((wanted_of hF rfl rfl rfl rfl).trans rfl) rfl rfl (x_faddr Try.underlying63 rfl ty3 (by decide) (hF.tmp 1 rfl) rfl) ?_; clear hF; intro a hF
  refine l_atg hF ((wanted_of hF rfl rfl rfl rfl).trans rfl) rfl rfl (x_load1 ty3 (hF.tmp 34 rfl) (blk_cell (hH.at 1 rfl) 1 rfl)) ?_; clear hF; intro a hF
  refine wpList_on ((wanted_of hF rfl rfl rfl rfl).trans rfl) fun K hK => ?_
  refine w_call hF (x_enter Try.func27 (by kernel_rfl) rfl (by simp only [List.map_toArray, List.map_cons, List.map_nil, hF.tmp 33 rfl, hF.tmp 35 rfl] <;> rfl)) (nsync_calls _ _) rfl rfl ?_
  rintro _ w ⟨rfl, hm_⟩; refine ⟨_, rfl, ?_⟩; clear hF; intro a hF; have hH := hH.same hm_
  refine hK _ _ ?_; clear hK K
  refine l_atg hF ((wanted_of hF rfl rfl rfl rfl).trans rfl) rfl rfl (x_eql (hF.tmp 36 rfl) rfl) ?_; clear hF; intro a hF
  rw [decide_eq_true (rfl)] at hF
  refine l_at hF rfl rfl rfl (x_pickT (hF.tmp 32 rfl) rfl (hF.tmp 37 rfl)) ?_; clear hF; intro a hF
  refine l_at hF rfl rfl rfl (x_move (hF.tmp 38 rfl)) ?_; clear hF; intro a hF
  refine l_atg hF ((wanted_of hF rfl rfl rfl rfl).trans rfl) rfl rfl (x_move (hF.tmp 3 rfl)) ?_; clear hF; intro a hF
  refine l_atg hF ((wanted_of hF rfl rfl rfl rfl).trans rfl) rfl rfl (x_faddr Try.underlying63 rfl ty3 (by decide) (hF.tmp 1 rfl) rfl) ?_; clear hF; intro a hF
  refine l_atg hF ((wanted_of hF rfl rfl rfl rfl).trans rfl) rfl rfl (x_load1 ty3 (hF.tmp 41 rfl) (blk_cell (hH.at 1 rfl) 1 rfl)) ?_; clear hF; intro a hF
  refine l_atg hF ((wanted_of hF rfl rfl rfl rfl).trans rfl) rfl rfl (x_faddr Try.underlying63 rfl ty3 (by decide) (hF.tmp 1 rfl) rfl) ?_; clear hF; intro a hF
  refine l_atg hF ((wanted_of hF rfl rfl rfl rfl).trans rfl) rfl rfl (x_load1 ty3 (hF.tmp 43 rfl) (blk_cell (hH.at 1 rfl) 2 rfl)) ?_; clear hF; intro a hF
  refine wpList_on ((wanted_of hF rfl rfl rfl rfl).trans rfl) fun K hK => ?_
  refine w_call hF (x_enter Try.func25 (by kernel_rfl) rfl (by simp only [List.map_toArray, List.map_cons, List.map_nil, hF.tmp 40 rfl, hF.tmp 42 rfl, hF.tmp 44 rfl] <;> rfl)) (ncut_calls _ _ _) rfl rfl ?_
  rintro _ w ⟨rfl, hm_⟩; refine ⟨_, rfl, ?_⟩; clear hF; intro a hF; have hH := hH.same hm_
  refine hK _ _ ?_; clear hK K
  refine l_atg hF ((wanted_of hF rfl rfl rfl rfl).trans rfl) rfl rfl (x_eql (hF.tmp 45 rfl) rfl) ?_; clear hF; intro a hF
  rw [decide_eq_true (rfl)] at hF
  refine l_at hF rfl rfl rfl (x_pickT (hF.tmp 39 rfl) rfl (hF.tmp 46 rfl)) ?_; clear hF; intro a hF
  refine l_at hF rfl rfl rfl (x_move (hF.tmp 47 rfl)) ?_; clear hF; intro a hF
  refine l_atg hF ((wanted_of hF rfl rfl rfl rfl).trans rfl) rfl rfl (x_move (hF.tmp 3 rfl)) ?_; clear hF; intro a hF
  refine l_atg hF ((wanted_of hF rfl rfl rfl rfl).trans rfl) rfl rfl (x_faddr Try.underlying63 rfl ty3 (by decide) (hF.tmp 1 rfl) rfl) ?_; clear hF; intro a hF
  refine l_atg hF ((wanted_of hF rfl rfl rfl rfl).trans rfl) rfl rfl (x_load1 ty3 (hF.tmp 50 rfl) (blk_cell (hH.at 1 rfl) 1 rfl)) ?_; clear hF; intro a hF
  refine wpList_on ((wanted_of hF rfl rfl rfl rfl).trans rfl) fun K hK => ?_
  refine w_call hF (x_enter Try.func34 (by kernel_rfl) rfl (by simp only [List.map_toArray, List.map_cons, List.map_nil, hF.tmp 49 rfl, hF.tmp 51 rfl] <;> rfl)) (nrem_calls _ _) rfl rfl ?_
  rintro _ w ⟨rfl, hm_⟩; refine ⟨_, rfl, ?_⟩; clear hF; intro a hF; have hH := hH.same hm_
  refine hK _ _ ?_; clear hK K
  refine l_atg hF ((wanted_of hF rfl rfl rfl rfl).trans rfl) rfl rfl (x_eql (hF.tmp 52 rfl) rfl) ?_; clear hF; intro a hF
  rw [decide_eq_true (rfl)] at hF
  refine l_at hF rfl rfl rfl (x_pickT (hF.tmp 48 rfl) rfl (hF.tmp 53 rfl)) ?_; clear hF; intro a hF
  refine l_at hF rfl rfl rfl (x_move (hF.tmp 54 rfl)) ?_; clear hF; intro a hF
  refine l_atg hF ((wanted_of hF rfl rfl rfl rfl).trans rfl) rfl rfl (x_move (hF.tmp 3 rfl)) ?_; clear hF; intro a hF
  refine l_atg hF ((wanted_of hF rfl rfl rfl rfl).trans rfl) rfl rfl (x_faddr Try.underlying63 rfl ty42 (by decide) (hF.tmp 1 rfl) rfl) ?_; clear hF; intro a hF
  refine l_atg hF ((wanted_of hF rfl rfl rfl rfl).trans rfl) rfl rfl (x_load1 ty42 (hF.tmp 57 rfl) (blk_cell (hH.at 1 rfl) 3 rfl)) ?_; clear hF; intro a hF
  refine wpList_on ((wanted_of hF rfl rfl rfl rfl).trans rfl) fun K hK => ?_
  refine w_call hF (x_enter Try.func28 (by kernel_rfl) rfl (by simp only [List.map_toArray, List.map_cons, List.map_nil, hF.tmp 56 rfl, hF.tmp 58 rfl] <;> rfl)) (nswap_calls _ _ _ _) rfl rfl ?_
  rintro _ w ⟨rfl, hm_⟩; refine ⟨_, rfl, ?_⟩; clear hF; intro a hF; have hH := hH.same hm_
  refine hK _ _ ?_; clear hK K
  refine l_atg hF ((wanted_of hF rfl rfl rfl rfl).trans rfl) rfl rfl (x_eql (hF.tmp 59 rfl) rfl) ?_; clear hF; intro a hF
  rw [decide_eq_true (rfl)] at hF
  refine l_at hF rfl rfl rfl (x_pickT (hF.tmp 55 rfl) rfl (hF.tmp 60 rfl)) ?_; clear hF; intro a hF
  refine l_at hF rfl rfl rfl (x_move (hF.tmp 61 rfl)) ?_; clear hF; intro a hF
  refine l_atg hF ((wanted_of hF rfl rfl rfl rfl).trans rfl) rfl rfl (x_move (hF.tmp 3 rfl)) ?_; clear hF; intro a hF
  refine l_atg hF ((wanted_of hF rfl rfl rfl rfl).trans rfl) rfl rfl (x_faddr Try.underlying63 rfl ty3 (by decide) (hF.tmp 1 rfl) rfl) ?_; clear hF; intro a hF
  refine l_atg hF ((wanted_of hF rfl rfl rfl rfl).trans rfl) rfl rfl (x_load1 ty3 (hF.tmp 64 rfl) (blk_cell (hH.at 1 rfl) 1 rfl)) ?_; clear hF; intro a hF
  refine wpList_on ((wanted_of hF rfl rfl rfl rfl).trans rfl) fun K hK => ?_
  refine w_call hF (x_enter Try.func26 (by kernel_rfl) rfl (by simp only [List.map_toArray, List.map_cons, List.map_nil, hF.tmp 63 rfl, hF.tmp 65 rfl] <;> rfl)) (nsafe_calls _ _) rfl rfl ?_
  rintro _ w ⟨rfl, hm_⟩; refine ⟨_, rfl, ?_⟩; clear hF; intro a hF; have hH := hH.same hm_
  refine hK _ _ ?_; clear hK K
  refine l_atg hF ((wanted_of hF rfl rfl rfl rfl).trans rfl) rfl rfl (x_eql (hF.tmp 66 rfl) rfl) ?_; clear hF; intro a hF
  rw [decide_eq_true (rfl)] at hF
  refine l_at hF rfl rfl rfl (x_pickT (hF.tmp 62 rfl) rfl (hF.tmp 67 rfl)) ?_; clear hF; intro a hF
  refine l_at hF rfl rfl rfl (x_move (hF.tmp 68 rfl)) ?_; clear hF; intro a hF
  refine l_atg hF ((wanted_of hF rfl rfl rfl rfl).trans rfl) rfl rfl (x_move (hF.tmp 3 rfl)) ?_; clear hF; intro a hF
  refine wpList_on ((wanted_of hF rfl rfl rfl rfl).trans rfl) fun K hK => ?_
  refine w_call hF (x_enter Try.func40 (by kernel_rfl) rfl (by simp only [List.map_toArray, List.map_cons, List.map_nil, hF.tmp 70 rfl] <;> rfl)) (nsegs_calls _) rfl rfl ?_
  rintro _ w ⟨rfl, hm_⟩; refine ⟨_, rfl, ?_⟩; clear hF; intro a hF; have hH := hH.same hm_
  refine hK _ _ ?_; clear hK K
  refine l_atg hF ((wanted_of hF rfl rfl rfl rfl).trans rfl) rfl rfl (x_len_slice Try.underlying32 (hF.tmp 71 rfl)) ?_; clear hF; intro a hF
  refine l_atg hF ((wanted_of hF rfl rfl rfl rfl).trans rfl) rfl rfl (x_eql (hF.tmp 72 rfl) rfl) ?_; clear hF; intro a hF
  rw [show decide (((0 : Nat) : Int) = 0) = true from rfl] at hF
  refine l_at hF rfl rfl rfl (x_pickT (hF.tmp 69 rfl) rfl (hF.tmp 73 rfl)) ?_; clear hF; intro a hF
  refine l_at hF rfl rfl rfl (x_move (hF.tmp 74 rfl)) ?_; clear hF; intro a hF
  refine l_atg hF ((wanted_of hF rfl rfl rfl rfl).trans rfl) rfl rfl (x_move (hF.tmp 3 rfl)) ?_; clear hF; intro a hF
  refine wpList_on ((wanted_of hF rfl rfl rfl rfl).trans rfl) fun K hK => ?_
  refine w_call hF (x_enter Try.func30 (by kernel_rfl) rfl (by simp only [List.map_toArray, List.map_cons, List.map_nil, hF.tmp 76 rfl] <;> rfl)) (nroot_calls _) rfl rfl ?_
  rintro _ w ⟨rfl, hm_⟩; refine ⟨_, rfl, ?_⟩; clear hF; intro a hF; have hH := hH.same hm_
  refine hK _ _ ?_; clear hK K
  refine l_atg hF ((wanted_of hF rfl rfl rfl rfl).trans rfl) rfl rfl (x_len_slice Try.underlying42 (hF.tmp 77 rfl)) ?_; clear hF; intro a hF
  refine l_atg hF ((wanted_of hF rfl rfl rfl rfl).trans rfl) rfl rfl (x_eql (hF.tmp 78 rfl) rfl) ?_; clear hF; intro a hF
  rw [show decide (((0 : Nat) : Int) = 0) = true from rfl] at hF
  refine l_at hF rfl rfl rfl (x_pickT (hF.tmp 75 rfl) rfl (hF.tmp 79 rfl)) ?_; clear hF; intro a hF
  refine l_at hF rfl rfl rfl (x_move (hF.tmp 80 rfl)) ?_; clear hF; intro a hF
  refine l_atg hF ((wanted_of hF rfl rfl rfl rfl).trans rfl) rfl rfl (x_move (hF.tmp 3 rfl)) ?_; clear hF; intro a hF
  refine l_atg hF ((wanted_of hF rfl rfl rfl rfl).trans rfl) rfl rfl (x_faddr Try.underlying63 rfl ty32 (by decide) (hF.tmp 1 rfl) rfl) ?_; clear hF; intro a hF
  refine l_atg hF ((wanted_of hF rfl rfl rfl rfl).trans rfl) rfl rfl (x_load1 ty32 (hF.tmp 83 rfl) (blk_cell (hH.at 1 rfl) 4 rfl)) ?_; clear hF; intro a hF
  refine wpList_on ((wanted_of hF rfl rfl rfl rfl).trans rfl) fun K hK => ?_
  refine w_call hF (x_enter Try.func29 (by kernel_rfl) rfl (by simp only [List.map_toArray, List.map_cons, List.map_nil, hF.tmp 82 rfl, hF.tmp 84 rfl] <;> rfl)) (npower_calls _ _ _ _) rfl rfl ?_
  rintro _ w ⟨rfl, hm_⟩; refine ⟨_, rfl, ?_⟩; clear hF; intro a hF; have hH := hH.same hm_
  refine hK _ _ ?_; clear hK K
  refine l_atg hF ((wanted_of hF rfl rfl rfl rfl).trans rfl) rfl rfl (x_ptrnil Try.underlying40 (hF.tmp 85 rfl) rfl) ?_; clear hF; intro a hF
  refine l_at hF rfl rfl rfl (x_pickT (hF.tmp 81 rfl) rfl (hF.tmp 86 rfl)) ?_; clear hF; intro a hF
  refine l_at hF rfl rfl rfl (x_assign (hF.tmp 87 rfl)) ?_; clear hF; intro a hF
  refine wpList_nil ?_
  refine hK4 _ _ ?_
  refine wp_ret ?_
  try simp only [Exit.then, Exit.inBlock]
  exact fin_ret hF (res1 hF rfl rfl) ⟨rfl, hH.mods⟩

end Go.Proofs.Ytkocinnoncacgaa.Dsk
